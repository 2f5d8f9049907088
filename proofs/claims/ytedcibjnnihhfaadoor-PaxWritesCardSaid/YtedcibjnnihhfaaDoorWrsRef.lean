/-
  The reference's Records; heavy.
-/
import Derived.Test.YtedcibjnnihhfaaDoorWrs
namespace Go.Proofs.YtedcibjnnihhfaaDoor
open Go.RowKit

/-- A result's two cells in a block of its own: they stay, and may be written. -/
theorem res_box {w W : World} {a b : Int} {t : TypeId} (h : Ext (w.alloc (.cells #[.int .i64 a, .int .i64 b] t)) W) :
    W.cell? ⟨w.heap.size, 0, none⟩ = some (.int .i64 a) ∧ W.cell? ⟨w.heap.size, 1, none⟩ = some (.int .i64 b) ∧ W.frozen? ⟨w.heap.size, 0, none⟩ = false ∧ W.frozen? ⟨w.heap.size, 1, none⟩ = false ∧ w.heap.size < W.heap.size := by
  have h1 := h.cell (show (w.alloc (.cells #[.int .i64 a, .int .i64 b] t)).cell? ⟨w.heap.size, 0, none⟩ = some (.int .i64 a) by simp)
  have h2 := h.cell (show (w.alloc (.cells #[.int .i64 a, .int .i64 b] t)).cell? ⟨w.heap.size, 1, none⟩ = some (.int .i64 b) by simp)
  exact ⟨h1, h2, by rw [h.frozens _ _ (by simp)]; simp, by rw [h.frozens _ _ (by simp)]; simp, World.block_lt_of_cell? W _ h1⟩

/-- .. and what was written is read. -/
theorem res_put {W : World} {g : Nat} {a b : Value} (h1 : W.cell? ⟨g, 0, none⟩ = some a) (h2 : W.cell? ⟨g, 1, none⟩ = some b) (x y : Value) :
    (W.setCell ⟨g, 0, none⟩ x).cell? ⟨g, 0, none⟩ = some x ∧ ((W.setCell ⟨g, 0, none⟩ x).setCell ⟨g, 1, none⟩ y).cell? ⟨g, 1, none⟩ = some y := by
  refine ⟨World.cell?_setCell_same' _ _ _ (by rw [h1]; rfl), World.cell?_setCell_same' _ _ _ ?_⟩
  rw [World.cell?_setCell_other (h := fun he => by injection he; omega), h2]
  rfl

set_option maxHeartbeats 4000000 in
set_option maxRecDepth 100000 in
theorem refRecords_any (w : World) (v : Value) (n : Nat) (K X : Nat → ByteArray) (h : IsPairs w v n K X) (hs : Short n K X) (ht : HasPow w) :
    Calls Tryd.prog 34 #[v] w fun e w' => e = .returned (.tuple #[.string (wrV n K X), .agg #[.int .i64 (wrE n K X), .int .i64 (wrP n K X)]]) ∧ Ext w w' := by
  have C3 := Lib.hid (fun w => bareF_any 4 w)
  have C4 := Lib.hid (fun w => goodF_any w)
  by_cases h20 : 20 < n
  · obtain ⟨e1, e2, e3⟩ := wr_many K X h20
    rw [e1, e2, e3]
    have q1 : decide ((20 : Int) < (n : Int)) = true := decide_eq_true (by omega)
    rcases h with ⟨⟨a0, c0, rfl⟩, rfl⟩ | ⟨b, off, cap, rfl, hn, hc⟩
    · omega
    · clear hc hs e1 e2 e3 h20
      go_enter Tryd.func34, Tryd.ntmps34
      go_wp2_with fail
      refine (C3.out _).mono ?_; rintro e w1 ⟨rfl, hx1⟩
      obtain ⟨r1, r2, r3, r4, r5⟩ := res_box hx1
      go_wp2_with fail
      obtain ⟨s0, s1⟩ := res_put r1 r2 (.int .i64 4) (.int .i64 (-1))
      exact bodyPost_ret (v := .tuple #[.string ⟨#[]⟩, .agg #[.int .i64 4, .int .i64 (-1)]]) (by simp [results, Tryd.results34, go_sem, s0, s1]) rfl ⟨rfl, (Ext.trans ((Ext.refl w).alloc _) hx1).setCell (Nat.le_refl _) _ |>.setCell (Nat.le_refl _) _⟩
  · have q1 : decide ((20 : Int) < (n : Int)) = false := decide_eq_false (by omega)
    have hw0 : Ext w (w.alloc (.cells #[.int .i64 0, .int .i64 0] 66)) := (Ext.refl w).alloc _
    rcases h with ⟨⟨a0, c0, rfl⟩, rfl⟩ | ⟨b, off, cap, rfl, hn, hc⟩
    · obtain ⟨e1, e2, e3⟩ := wr_good (K := K) (X := X) h20 (fun j hj => by omega)
      rw [e1, e2, e3]
      go_enter Tryd.func34, Tryd.ntmps34
      go_wp2_with fail
      refine wp_loop_rounds 1 ?_
      rw [rounds_succ]
      go_wp2_with fail
      refine (C4.out _).mono ?_; rintro e w1 ⟨rfl, hx1⟩
      obtain ⟨r1, r2, r3, r4, r5⟩ := res_box hx1
      go_wp2_with fail
      obtain ⟨s0, s1⟩ := res_put r1 r2 (.int .i64 0) (.int .i64 (-1))
      exact bodyPost_ret (v := .tuple #[.string ⟨#[]⟩, .agg #[.int .i64 0, .int .i64 (-1)]]) (by simp [results, Tryd.results34, go_sem, s0, s1]) rfl ⟨rfl, (Ext.trans ((Ext.refl w).alloc _) hx1).setCell (Nat.le_refl _) _ |>.setCell (Nat.le_refl _) _⟩
    · have Hc := Lib.hid hc
      have Hs := Lib.hid hs
      clear hc hs
      go_enter Tryd.func34, Tryd.ntmps34
      go_wp2_with fail
      go_loopw [4, 15] (fun o i wr => ∃ k : Nat, k ≤ n ∧ o = .string (catR K X k) ∧ i = .int .i64 (k : Int) ∧ Hid (∀ j, j < k → pairB (K j) (X j) = true) ∧ Ext (w.alloc (.cells #[.int .i64 0, .int .i64 0] 66)) wr) (fun _ i _ => n - (intOf i).toNat)
      case atStart => exact ⟨0, Nat.zero_le _, rfl, rfl, Lib.hid (fun j hj => by omega), Ext.refl _⟩
      case round =>
        obtain ⟨k, hk, rfl, rfl, hall, hF⟩ := hrel
        have hE := hw0.trans hF
        by_cases hlt : k < n
        · obtain ⟨b1, b2, c1, c2⟩ := Hc.out k hlt
          have g1 := hE.cell c1
          have g2 := hE.cell c2
          have hsh := Hs.out k hlt
          have C1 := Lib.hid (fun w ht => refRecord_any (K k) (X k) (by omega) w ht)
          have hF0 : Ext (w.alloc (.cells #[.int .i64 0, .int .i64 0] 66)) (wr.alloc (.cells #[.string (K k), .string (X k)] 59)) := hF.alloc _
          have hcs := catR_size k hall.out
          have hkn : k * 206 ≤ 20 * 206 := Nat.mul_le_mul (by omega) (Nat.le_refl _)
          cases hp : pairB (K k) (X k) with
          | false =>
            obtain ⟨e1, e2, e3⟩ := wr_bad h20 hlt hall.out hp
            have ev : Hid (wrV n K X = ⟨#[]⟩ ∧ wrE n K X = 1 ∧ wrP n K X = k) := Lib.hid ⟨e1, e2, e3⟩
            have er : Hid (recV (K k) (X k) = ⟨#[]⟩ ∧ recE (K k) (X k) = 1) := Lib.hid (by unfold recV recE; rw [hp]; exact ⟨rfl, rfl⟩)
            rw [er.out.1, er.out.2] at C1
            clear hp e1 e2 e3 c1 c2 b1 b2
            generalize catR K X k = acc at *
            generalize K k = kk at *
            generalize X k = xx at *
            go_wp2_with fail
            refine (C1.out _ (ht.ext (hw0.trans hF0))).mono ?_; rintro e w1 ⟨rfl, hx1⟩
            have hF1 := hF0.trans hx1
            obtain ⟨r1, r2, r3, r4, r5⟩ := res_box hF1
            go_wp2_with fail
            rw [ev.out.1, ev.out.2.1, ev.out.2.2]
            obtain ⟨s0, s1⟩ := res_put r1 r2 (.int .i64 1) (.int .i64 (k : Int))
            exact bodyPost_ret (v := .tuple #[.string ⟨#[]⟩, .agg #[.int .i64 1, .int .i64 (k : Int)]]) (by simp [results, Tryd.results34, go_sem, s0, s1]) rfl ⟨rfl, ((hw0.trans hF1).setCell (Nat.le_refl _) _).setCell (Nat.le_refl _) _⟩
          | true =>
            have hrs := recB_small hp
            have Hp := Lib.hid hp
            have er : Hid (recV (K k) (X k) = recB (K k) (X k) ∧ recE (K k) (X k) = 0) := Lib.hid (by unfold recV recE; rw [hp]; exact ⟨rfl, rfl⟩)
            have hnew : Hid (catR K X (k + 1) = catR K X k ++ recB (K k) (X k)) := Lib.hid rfl
            rw [er.out.1, er.out.2] at C1
            clear hp c1 c2 b1 b2
            generalize catR K X k = acc at *
            generalize recB (K k) (X k) = rr at *
            go_wp2_with fail
            refine (C1.out _ (ht.ext (hw0.trans hF0))).mono ?_; rintro e w1 ⟨rfl, hx1⟩
            go_wp2_with fail
            go_roundw
            case rel => exact ⟨k + 1, hlt, by rw [hnew.out], by go_num, Lib.hid (allBelow2 hall.out Hp.out), hF0.trans hx1⟩
            case measure => simp [intOf]; omega
        · obtain rfl : k = n := by omega
          have ev : Hid (wrV k K X = catR K X k ∧ wrE k K X = 0 ∧ wrP k K X = -1) := Lib.hid (wr_good h20 hall.out)
          generalize catR K X k = acc at *
          go_wp2_with fail
          refine (C4.out _).mono ?_; rintro e w1 ⟨rfl, hx1⟩
          have hF1 := hF.trans hx1
          obtain ⟨r1, r2, r3, r4, r5⟩ := res_box hF1
          go_wp2_with fail
          rw [ev.out.1, ev.out.2.1, ev.out.2.2]
          obtain ⟨s0, s1⟩ := res_put r1 r2 (.int .i64 0) (.int .i64 (-1))
          exact bodyPost_ret (v := .tuple #[.string acc, .agg #[.int .i64 0, .int .i64 (-1)]]) (by simp [results, Tryd.results34, go_sem, s0, s1]) rfl ⟨rfl, ((hw0.trans hF1).setCell (Nat.le_refl _) _).setCell (Nat.le_refl _) _⟩

/-- Too many pairs, or one too long. -/
def heavyB (n : Nat) (K X : Nat → ByteArray) : Bool := decide (30 < n) || (List.range n).any fun k => decide (300 < (K k).size + (X k).size)
theorem heavy_short {n : Nat} {K X : Nat → ByteArray} (h : heavyB n K X = false) : n ≤ 30 ∧ Short n K X := by
  unfold heavyB at h
  simp at h
  exact ⟨h.1, fun k hk => h.2 k hk⟩
theorem heavy_hit {n k : Nat} {K X : Nat → ByteArray} (hk : k < n) (h : 300 < (K k).size + (X k).size) : heavyB n K X = true := by
  unfold heavyB
  have : ((List.range n).any fun k => decide (300 < (K k).size + (X k).size)) = true := by
    rw [List.any_eq_true]
    exact ⟨k, by simpa using hk, by simpa using h⟩
  simp [this]
theorem heavy_none {n : Nat} {K X : Nat → ByteArray} (hn : n ≤ 30) (h : ∀ j, j < n → (K j).size + (X j).size ≤ 300) : heavyB n K X = false := by
  unfold heavyB
  have : ((List.range n).any fun k => decide (300 < (K k).size + (X k).size)) = false := by
    rw [List.any_eq_false]
    intro x hx
    have := h x (by simpa using hx)
    simp
    omega
  simp [this, hn]

set_option maxHeartbeats 1600000 in
set_option maxRecDepth 100000 in
theorem heavy_any (w : World) (v : Value) (n : Nat) (K X : Nat → ByteArray) (h : IsPairs w v n K X) : Calls Tryd.prog 33 #[v] w fun x w' => x = .returned (.bool (heavyB n K X)) ∧ Ext w w' := by
  by_cases hm : 30 < n
  · have er : Hid (heavyB n K X = true) := Lib.hid (by unfold heavyB; simp [hm])
    have q1 : decide ((30 : Int) < (n : Int)) = true := decide_eq_true (by omega)
    rcases h with ⟨⟨a, c, rfl⟩, rfl⟩ | ⟨b, off, cap, rfl, hn, hc⟩
    · omega
    · clear hm
      go_enter Tryd.func33, Tryd.ntmps33
      go_wp2_with fail
      go_ret
      exact ⟨ret_bool (by rw [er.out]), (by show Below _ _ _; repeat' (first | (with_reducible exact Below.refl _ _) | (with_reducible assumption) | (with_reducible refine belowDrewN ?_ _) | (with_reducible refine Below.alloc ?_ ?_ _) | (with_reducible refine Below.drew ?_) | (with_reducible refine Below.setCell ?_ ?_ _) | go_size))⟩
  · have q1 : decide ((30 : Int) < (n : Int)) = false := decide_eq_false (by omega)
    rcases h with ⟨⟨a, c, rfl⟩, rfl⟩ | ⟨b, off, cap, rfl, hn, hc⟩
    · have er : Hid (heavyB 0 K X = false) := Lib.hid (heavy_none (by omega) fun j hj => by omega)
      go_enter Tryd.func33, Tryd.ntmps33
      go_wp2_with fail
      refine wp_loop_rounds 1 ?_
      rw [rounds_succ]
      go_wp2_with fail
      go_ret
      exact ⟨ret_bool (by rw [er.out]), (by show Below _ _ _; repeat' (first | (with_reducible exact Below.refl _ _) | (with_reducible assumption) | (with_reducible refine belowDrewN ?_ _) | (with_reducible refine Below.alloc ?_ ?_ _) | (with_reducible refine Below.drew ?_) | (with_reducible refine Below.setCell ?_ ?_ _) | go_size))⟩
    · have Hc := Lib.hid hc
      clear hc
      go_enter Tryd.func33, Tryd.ntmps33
      go_wp2_with fail
      go_loopw [3] (fun i wr => ∃ k : Nat, k ≤ n ∧ i = .int .i64 (k : Int) ∧ Hid (∀ j, j < k → (K j).size + (X j).size ≤ 300) ∧ Ext w wr) (fun i _ => n - (intOf i).toNat)
      case atStart => exact ⟨0, by omega, rfl, Lib.hid (fun j hj => by omega), Ext.refl _⟩
      case round =>
        obtain ⟨k, hk, rfl, hall, hE⟩ := hrel
        by_cases hlt : k < n
        · obtain ⟨b1, b2, c1, c2⟩ := Hc.out k hlt
          have g1 := hE.cell c1
          have g2 := hE.cell c2
          have lb : b < wr.heap.size := World.block_lt_of_cell? wr _ g1
          have hcond : Hid ((K k).size + (X k).size ≤ 300 → ∀ j, j < k + 1 → (K j).size + (X j).size ≤ 300) := Lib.hid (fun h j hj => by
            rcases Nat.lt_succ_iff_lt_or_eq.1 hj with h1 | rfl
            · exact hall.out j h1
            · exact h)
          have hh : Hid (300 < (K k).size + (X k).size → heavyB n K X = true) := Lib.hid (heavy_hit hlt)
          clear c1 c2
          generalize K k = kk at *
          generalize X k = xx at *
          by_cases hq : (300 : Int) < (kk.size : Int) + (xx.size : Int)
          · have q2 : decide ((300 : Int) < (kk.size : Int) + (xx.size : Int)) = true := decide_eq_true hq
            have er := Lib.hid (hh.out (by omega))
            clear hq
            go_wp2_with fail
            refine wp_region_det (Stood _) (by kernel_rfl) (by kernel_rfl) (Stood.start _) ?_
            repeat (first
              | (refine det_skip (by rfl) ?_; simp only [Act.put, List.setIfInBounds_toArray, List.set_cons_zero, List.set_cons_succ])
              | (refine det_op (v := ?_) rfl (by rfl) (fun w' hS => ?_) ?_; rotate_left; (focus (obtain ⟨hcl, hxt⟩ := hS; go_wp2_with (fail); (first | refine ⟨?_, rfl, hcl, hxt⟩ | refine ⟨?_, rfl, Stood.of (hxt.trans (by assumption))⟩); (first | (simp only [List.getElem?_toArray, List.getElem?_cons_succ, List.getElem?_cons_zero]; rfl) | rfl))); simp only [Act.put, List.setIfInBounds_toArray, List.set_cons_zero, List.set_cons_succ]))
            refine det_end ?_
            intro w1 hS
            have hx := hS.2
            clear hS
            go_wp2_with fail
            go_ret
            exact ⟨ret_bool (by rw [er.out]), hE.trans hx⟩
          · have q2 : decide ((300 : Int) < (kk.size : Int) + (xx.size : Int)) = false := decide_eq_false hq
            have hle : Hid (kk.size + xx.size ≤ 300) := Lib.hid (by omega)
            clear hq
            go_wp2_with fail
            refine wp_region_det (Stood _) (by kernel_rfl) (by kernel_rfl) (Stood.start _) ?_
            repeat (first
              | (refine det_skip (by rfl) ?_; simp only [Act.put, List.setIfInBounds_toArray, List.set_cons_zero, List.set_cons_succ])
              | (refine det_op (v := ?_) rfl (by rfl) (fun w' hS => ?_) ?_; rotate_left; (focus (obtain ⟨hcl, hxt⟩ := hS; go_wp2_with (fail); (first | refine ⟨?_, rfl, hcl, hxt⟩ | refine ⟨?_, rfl, Stood.of (hxt.trans (by assumption))⟩); (first | (simp only [List.getElem?_toArray, List.getElem?_cons_succ, List.getElem?_cons_zero]; rfl) | rfl))); simp only [Act.put, List.setIfInBounds_toArray, List.set_cons_zero, List.set_cons_succ]))
            refine det_end ?_
            intro w1 hS
            have hx := hS.2
            clear hS
            go_wp2_with fail
            go_roundw
            case rel => exact ⟨k + 1, hlt, by go_num, Lib.hid (hcond.out hle.out), hE.trans hx⟩
            case measure => simp [intOf]; omega
        · obtain rfl : k = n := by omega
          have er : Hid (heavyB k K X = false) := Lib.hid (heavy_none (by omega) hall.out)
          go_wp2_with fail
          go_ret
          exact ⟨ret_bool (by rw [er.out]), hE⟩
end Go.Proofs.YtedcibjnnihhfaaDoor
