/-
  Tell, Place and 'placed' at an error with a place (*api.At) (not built yet).
-/
import Derived.Test.YtbofobakphlpbaaDoorAt
import Derived.Test.YtbofobakphlpbaaDoorDet
namespace Go.Proofs.YtbofobakphlpbaaDoor
open Go.RowKit Go.Stop

/-- An error with a place. -/
def IsAt (w : World) (b : Nat) (k pl : Int) : Prop := w.cell? ⟨b, 0, none⟩ = some (.int .i64 k) ∧ w.cell? ⟨b, 1, none⟩ = some (.int .i64 pl)
theorem IsAt.ext {w w' : World} {b : Nat} {k pl : Int} (h : IsAt w b k pl) (e : Ext w w') : IsAt w' b k pl := ⟨e.cell h.1, e.cell h.2⟩

set_option maxHeartbeats 4000000 in
set_option maxRecDepth 100000 in
theorem tell_at (k pl : Int) (b : Nat) (w : World) (hg : HasHandle w) (h : IsAt w b k pl) : Calls Tryd.prog 50 #[.iface 90 (.pointer (some ⟨b, 0, none⟩))] w fun e w' => e = .returned (.int .i64 k) ∧ Ext w w' := by
  have hx : Ext w (w.alloc (.cells #[.int .i64 0] 22)) := Ext.alloc (Ext.refl w) _
  have hA : HasHandle (w.alloc (.cells #[.int .i64 0] 22)) := hg.ext hx
  have hB := (h.ext hx).1
  go_enter Tryd.func50, Tryd.ntmps50
  go_wp2_with ((refine (as_at k b _ (.int .i64 0) _ hA (by simp) (by simp) hB).mono ?_); rintro e w' ⟨rfl, rfl⟩)
  go_ret
  refine ⟨rfl, (by show Below _ _ _; repeat' (first | (with_reducible exact Below.refl _ _) | (with_reducible assumption) | (with_reducible refine belowDrewN ?_ _) | (with_reducible refine Below.alloc ?_ ?_ _) | (with_reducible refine Below.drew ?_) | (with_reducible refine Below.setCell ?_ ?_ _) | go_size))⟩

set_option maxRecDepth 100000 in
theorem place_at (k pl : Int) (b : Nat) (w : World) (hg : HasHandle w) (h : IsAt w b k pl) : Calls Tryd.prog 27 #[.iface 90 (.pointer (some ⟨b, 0, none⟩))] w fun e w' => e = .returned (.tuple #[.int .i64 k, .int .i64 pl]) ∧ Ext w w' := by
  go_enter Tryd.func27, Tryd.ntmps27
  go_wp2_with ((refine (tell_at k pl b _ hg h).mono ?_); rintro e w' ⟨rfl, hx⟩)
  have h1 := (h.ext hx).1
  have h2 := (h.ext hx).2
  have lb : b < w'.heap.size := World.block_lt_of_cell? w' _ h1
  refine wp_loop_rounds 1 ?_
  rw [rounds_succ]
  go_wp2_with fail
  refine wp_region_det (Stood _) (by kernel_rfl) (by kernel_rfl) (Stood.start _) ?_
  repeat (first
    | (refine det_skip (by rfl) ?_; simp only [Act.put, List.setIfInBounds_toArray, List.set_cons_zero, List.set_cons_succ])
    | (refine det_op (v := ?_) rfl (by rfl) (fun w' hS => ?_) ?_; rotate_left; (focus (obtain ⟨hcl, hxt⟩ := hS; go_wp2_with (fail); (first | refine ⟨?_, rfl, hcl, hxt⟩ | refine ⟨?_, rfl, Stood.of (hxt.trans (by assumption))⟩); (first | (simp only [List.getElem?_toArray, List.getElem?_cons_succ, List.getElem?_cons_zero]; rfl) | rfl))); simp only [Act.put, List.setIfInBounds_toArray, List.set_cons_zero, List.set_cons_succ]))
  refine det_end ?_
  intro w2 hS
  have hx2 := hS.2
  clear hS
  go_wp2_with fail
  go_ret2
  exact ⟨rfl, hx.trans hx2⟩
end Go.Proofs.YtbofobakphlpbaaDoor
