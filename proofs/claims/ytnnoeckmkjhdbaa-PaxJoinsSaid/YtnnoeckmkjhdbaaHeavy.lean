/-
  The law's heavy: for any pairs.
-/
import Derived.Test.YtnnoeckmkjhdbaaPairArg
import Derived.Test.YtnnoeckmkjhdbaaKit
import Derived.Test.YtnnoeckmkjhdbaaDet
namespace Go.Proofs.Ytnnoeckmkjhdbaa
open Go.RowKit

def heavyB (n : Nat) (K X : Nat → ByteArray) : Bool := decide (30 < n) || (List.range n).any fun k => decide (300 < (K k).size + (X k).size)
theorem heavy_hit {n k : Nat} {K X : Nat → ByteArray} (hk : k < n) (h : 300 < (K k).size + (X k).size) : heavyB n K X = true := by
  unfold heavyB
  have : ((List.range n).any fun k => decide (300 < (K k).size + (X k).size)) = true := by
    rw [List.any_eq_true]
    exact ⟨k, by simpa using hk, by simpa using h⟩
  simp [this]
theorem heavy_none {n : Nat} {K X : Nat → ByteArray} (hn : n ≤ 30) (h : ∀ j, j < n → (K j).size + (X j).size ≤ 300) : heavyB n K X = false := by
  unfold heavyB
  have : ((List.range n).any fun k => decide (300 < (K k).size + (X k).size)) = false := by
    rw [List.any_eq_false]
    intro x hx
    have := h x (by simpa using hx)
    simp
    omega
  simp [this, hn]

set_option maxHeartbeats 1600000 in
set_option maxRecDepth 100000 in
theorem heavy_any (w : World) (v : Value) (n : Nat) (K X : Nat → ByteArray) (h : IsPairs w v n K X) : Calls Try.prog 4 #[v] w fun x w' => x = .returned (.bool (heavyB n K X)) ∧ Ext w w' := by
  by_cases hm : 30 < n
  · have er : Hid (heavyB n K X = true) := Lib.hid (by unfold heavyB; simp [hm])
    have q1 : decide ((30 : Int) < (n : Int)) = true := decide_eq_true (by omega)
    rcases h with ⟨⟨a, c, rfl⟩, rfl⟩ | ⟨b, off, cap, rfl, hn, hc⟩
    · omega
    · clear hm
      go_enter Try.func4, Try.ntmps4
      go_wp2_with fail
      go_ret
      exact ⟨ret_bool (by rw [er.out]), (by show Below _ _ _; repeat' (first | (with_reducible exact Below.refl _ _) | (with_reducible assumption) | (with_reducible refine belowDrewN ?_ _) | (with_reducible refine Below.alloc ?_ ?_ _) | (with_reducible refine Below.drew ?_) | (with_reducible refine Below.setCell ?_ ?_ _) | go_size))⟩
  · have q1 : decide ((30 : Int) < (n : Int)) = false := decide_eq_false (by omega)
    rcases h with ⟨⟨a, c, rfl⟩, rfl⟩ | ⟨b, off, cap, rfl, hn, hc⟩
    · have er : Hid (heavyB 0 K X = false) := Lib.hid (heavy_none (by omega) fun j hj => by omega)
      go_enter Try.func4, Try.ntmps4
      go_wp2_with fail
      refine wp_loop_rounds 1 ?_
      rw [rounds_succ]
      go_wp2_with fail
      go_ret
      exact ⟨ret_bool (by rw [er.out]), (by show Below _ _ _; repeat' (first | (with_reducible exact Below.refl _ _) | (with_reducible assumption) | (with_reducible refine belowDrewN ?_ _) | (with_reducible refine Below.alloc ?_ ?_ _) | (with_reducible refine Below.drew ?_) | (with_reducible refine Below.setCell ?_ ?_ _) | go_size))⟩
    · have Hc := Lib.hid hc
      clear hc
      go_enter Try.func4, Try.ntmps4
      go_wp2_with fail
      go_loopw [3] (fun i wr => ∃ k : Nat, k ≤ n ∧ i = .int .i64 (k : Int) ∧ Hid (∀ j, j < k → (K j).size + (X j).size ≤ 300) ∧ Ext w wr) (fun i _ => n - (intOf i).toNat)
      case atStart => exact ⟨0, by omega, rfl, Lib.hid (fun j hj => by omega), Ext.refl _⟩
      case round =>
        obtain ⟨k, hk, rfl, hall, hE⟩ := hrel
        by_cases hlt : k < n
        · obtain ⟨b1, b2, c1, c2⟩ := Hc.out k hlt
          have g1 := hE.cell c1
          have g2 := hE.cell c2
          have lb : b < wr.heap.size := World.block_lt_of_cell? wr _ g1
          have hcond : Hid ((K k).size + (X k).size ≤ 300 → ∀ j, j < k + 1 → (K j).size + (X j).size ≤ 300) := Lib.hid (fun h j hj => by
            rcases Nat.lt_succ_iff_lt_or_eq.1 hj with h1 | rfl
            · exact hall.out j h1
            · exact h)
          have hh : Hid (300 < (K k).size + (X k).size → heavyB n K X = true) := Lib.hid (heavy_hit hlt)
          clear c1 c2
          generalize K k = kk at *
          generalize X k = xx at *
          by_cases hq : (300 : Int) < (kk.size : Int) + (xx.size : Int)
          · have q2 : decide ((300 : Int) < (kk.size : Int) + (xx.size : Int)) = true := decide_eq_true hq
            have er := Lib.hid (hh.out (by omega))
            clear hq
            go_wp2_with fail
            refine wp_region_det (Stood _) (by kernel_rfl) (by kernel_rfl) (Stood.start _) ?_
            repeat (first
              | (refine det_skip (by rfl) ?_; simp only [Act.put, List.setIfInBounds_toArray, List.set_cons_zero, List.set_cons_succ])
              | (refine det_op (v := ?_) rfl (by rfl) (fun w' hS => ?_) ?_; rotate_left; (focus (obtain ⟨hcl, hxt⟩ := hS; go_wp2_with (fail); (first | refine ⟨?_, rfl, hcl, hxt⟩ | refine ⟨?_, rfl, Stood.of (hxt.trans (by assumption))⟩); (first | (simp only [List.getElem?_toArray, List.getElem?_cons_succ, List.getElem?_cons_zero]; rfl) | rfl))); simp only [Act.put, List.setIfInBounds_toArray, List.set_cons_zero, List.set_cons_succ]))
            refine det_end ?_
            intro w1 hS
            have hx := hS.2
            clear hS
            go_wp2_with fail
            go_ret
            exact ⟨ret_bool (by rw [er.out]), hE.trans hx⟩
          · have q2 : decide ((300 : Int) < (kk.size : Int) + (xx.size : Int)) = false := decide_eq_false hq
            have hle : Hid (kk.size + xx.size ≤ 300) := Lib.hid (by omega)
            clear hq
            go_wp2_with fail
            refine wp_region_det (Stood _) (by kernel_rfl) (by kernel_rfl) (Stood.start _) ?_
            repeat (first
              | (refine det_skip (by rfl) ?_; simp only [Act.put, List.setIfInBounds_toArray, List.set_cons_zero, List.set_cons_succ])
              | (refine det_op (v := ?_) rfl (by rfl) (fun w' hS => ?_) ?_; rotate_left; (focus (obtain ⟨hcl, hxt⟩ := hS; go_wp2_with (fail); (first | refine ⟨?_, rfl, hcl, hxt⟩ | refine ⟨?_, rfl, Stood.of (hxt.trans (by assumption))⟩); (first | (simp only [List.getElem?_toArray, List.getElem?_cons_succ, List.getElem?_cons_zero]; rfl) | rfl))); simp only [Act.put, List.setIfInBounds_toArray, List.set_cons_zero, List.set_cons_succ]))
            refine det_end ?_
            intro w1 hS
            have hx := hS.2
            clear hS
            go_wp2_with fail
            go_roundw
            case rel => exact ⟨k + 1, hlt, by go_num, Lib.hid (hcond.out hle.out), hE.trans hx⟩
            case measure => simp [intOf]; omega
        · obtain rfl : k = n := by omega
          have er : Hid (heavyB k K X = false) := Lib.hid (heavy_none (by omega) hall.out)
          go_wp2_with fail
          go_ret
          exact ⟨ret_bool (by rw [er.out]), hE⟩
end Go.Proofs.Ytnnoeckmkjhdbaa
