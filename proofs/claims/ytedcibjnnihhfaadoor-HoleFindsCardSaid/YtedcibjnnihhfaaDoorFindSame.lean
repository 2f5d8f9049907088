/-
  The law's sameMap: two maps with the same pieces.
-/
import Derived.Test.YtedcibjnnihhfaaDoorFindRef
import Derived.ChangeKeysEq
namespace Go.Proofs.YtedcibjnnihhfaaDoor
open Go.ChangeShapes Go.WideShapes Go.ChangeAt Go.RowKit Go.Joins
theorem infoIntF : (Tryd.prog.info? 3).map (fun i => (i.zero, i.size, i.bytes)) = some (some (.int .i64 0), 1, 8) := by kernel_rfl
theorem eql2d (d : Nat) (x1 x2 : Int) (w : World) (e : ∀ x : Int, (Op.equalIn d 3 (.int .i64 x) (.int .i64 x)).run Tryd.prog w = .ok true w) : (Op.equalIn (d + 1) 87 (.agg #[.int .i64 x1, .int .i64 x2]) (.agg #[.int .i64 x1, .int .i64 x2])).run Tryd.prog w = .ok true w := by
  simp only [Op.equalIn, Sem.run_bind, run_underlying Tryd.underlying87, Result.andThen_ok]
  simp [part, isAgg, run_underlying Tryd.underlying3, e]
theorem eql2 (x1 x2 : Int) (w : World) : (Op.equalIn 10000 87 (.agg #[.int .i64 x1, .int .i64 x2]) (.agg #[.int .i64 x1, .int .i64 x2])).run Tryd.prog w = .ok true w :=
  eql2d 9999 x1 x2 w fun x => by
    rw [show (9999 : Nat) = 9998 + 1 from rfl, run_equalIn_int w 9998 _ .i64 .i64 _ _ Tryd.underlying3]; simp
theorem same_any (w : World) (v u : Value) (L : List (Int × Int)) (hl : L.length ≤ 600) (h : IsMap w v L) (h' : IsMap w u L) : Calls Tryd.prog 22 #[v, u] w fun x w' => x = .returned (.bool true) ∧ Ext w w' := by
  have hsl : ∀ v, IsMap w v L → ∃ oa cap, v = .slice oa L.length cap ∧ ∀ k (h : k < L.length), ∃ b off, oa = some ⟨b, off, none⟩ ∧ w.cell? ⟨b, off + k * 2, none⟩ = some (.int .i64 L[k].1) ∧ w.cell? ⟨b, off + k * 2 + 1, none⟩ = some (.int .i64 L[k].2) := fun v h => by
    rcases h with ⟨⟨a, c, rfl⟩, rfl⟩ | ⟨b, off, cap, rfl, hc⟩
    · exact ⟨_, _, rfl, fun k h => absurd h (by simp)⟩
    · exact ⟨_, _, rfl, fun k h => ⟨b, off, rfl, (hc k h).1, (hc k h).2⟩⟩
  obtain ⟨oa, cap, rfl, hc⟩ := hsl v h
  obtain ⟨ob, cap', rfl, hc'⟩ := hsl u h'
  have K2 := Lib.hid hc
  have K3 := Lib.hid hc'
  clear h h' hc hc' hsl
  go_enter Tryd.func22, Tryd.ntmps22
  go_wp2_with fail
  go_loopw [5] (fun i wr => ∃ k : Nat, k ≤ L.length ∧ i = .int .i64 (k : Int) ∧ Ext w wr) (fun i _ => L.length - (intOf i).toNat)
  case atStart => exact ⟨0, by omega, rfl, Ext.refl _⟩
  case round =>
    obtain ⟨k, hk, rfl, hE⟩ := hrel
    by_cases hlt : k < L.length
    · obtain ⟨b2, o2, rfl, q2, r2⟩ := K2.out k hlt
      obtain ⟨b3, o3, rfl, q3, r3⟩ := K3.out k hlt
      have g2 := hE.cell q2
      have g3 := hE.cell q3
      have j2 := hE.cell r2
      have j3 := hE.cell r3
      have lb : b2 < wr.heap.size := World.block_lt_of_cell? wr _ g2
      have lb' : b3 < wr.heap.size := World.block_lt_of_cell? wr _ g3
      have Q : ∀ W, _ := eql2 L[k].1 L[k].2
      generalize L[k].1 = x at *
      generalize L[k].2 = y at *
      clear q2 q3 r2 r3
      go_wp2_with fail
      refine wp_region_det (Stood _) (by kernel_rfl) (by kernel_rfl) (Stood.start _) ?_
      repeat (first
        | (refine det_skip (by rfl) ?_; simp only [Act.put, List.setIfInBounds_toArray, List.set_cons_zero, List.set_cons_succ])
        | (refine det_op (v := ?_) rfl (by rfl) (fun w' hS => ?_) ?_; rotate_left; (focus (obtain ⟨hcl, hxt⟩ := hS; go_wp2_with (fail); (first | refine ⟨?_, rfl, hcl, hxt⟩ | refine ⟨?_, rfl, Stood.of (hxt.trans (by assumption))⟩); (first | (simp only [List.getElem?_toArray, List.getElem?_cons_succ, List.getElem?_cons_zero]; rfl) | rfl))); simp only [Act.put, List.setIfInBounds_toArray, List.set_cons_zero, List.set_cons_succ]))
      refine det_end ?_
      intro w4 hS
      have hx := hS.2
      clear hS
      go_wp2_with fail
      go_roundw
      case rel => exact ⟨k + 1, hlt, by go_num, hE.trans hx⟩
      case measure => simp [intOf]; omega
    · obtain rfl : k = L.length := by omega
      go_wp2_with fail
      go_ret
      exact ⟨rfl, hE⟩
end Go.Proofs.YtedcibjnnihhfaaDoor
