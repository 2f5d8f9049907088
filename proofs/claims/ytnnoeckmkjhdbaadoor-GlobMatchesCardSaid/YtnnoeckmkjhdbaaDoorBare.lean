/-
  Tell, Place and 'bare' at the errors that are nil or an Errno. After the laid variable errors.errorType.
-/
import Derived.Test.YtnnoeckmkjhdbaaDoorAs
namespace Go.Proofs.YtnnoeckmkjhdbaaDoor
open Go.RowKit Go.Stop

/-- What the laid variable gives every walk. -/
def HasHandle (w : World) : Prop := w.cell? ⟨0, 0, none⟩ = some (.iface 82 (.agg #[.pointer (some ⟨1, 26, none⟩)]))

theorem HasHandle.lt {w : World} (h : HasHandle w) : 0 < w.heap.size := World.block_lt_of_cell? w _ h
theorem bcellOld {w w' : World} {a : Addr} (e : Ext w w') (h : a.block < w.heap.size) : w'.cell? a = w.cell? a := by
  simp only [World.cell?, Below.block e a.block h]
theorem HasHandle.ext {w w' : World} (h : HasHandle w) (e : Ext w w') : HasHandle w' := by
  have := h.lt
  unfold HasHandle at *
  rw [← h]; exact bcellOld e this

@[go_sem] theorem as_errno_at (v : Value) (w : World) : (Instr.typeAssert (.iface 22 v) 26 57 true).run Tryd.prog w = .ok (.tuple #[.pointer none, .bool false]) w := by kernel_rfl
@[go_sem] theorem as_at_at (v : Value) (w : World) : (Instr.typeAssert (.iface 57 v) 26 57 true).run Tryd.prog w = .ok (.tuple #[v, .bool true]) w := by kernel_rfl
@[go_sem] theorem as_errno_unwrap (v : Value) (w : World) : (Instr.typeAssert (.iface 22 v) 26 61 true).run Tryd.prog w = .ok (.tuple #[.nilIface, .bool false]) w :=
  run_typeAssert_lacksB Tryd.underlying61 (by kernel_rfl) (by kernel_rfl) v _ w

theorem tell_nil (w : World) : Calls Tryd.prog 16 #[.nilIface] w fun e w' => e = .returned (.int .i64 0) ∧ w' = w := by
  go_enter Tryd.func16, Tryd.ntmps16
  go_wp2
  go_ret
  exact ⟨rfl, rfl⟩

set_option maxHeartbeats 4000000 in
theorem tell_errno (k : Int) (w : World) (hg : HasHandle w) : Calls Tryd.prog 16 #[.iface 22 (.int .i64 k)] w fun e w' => e = .returned (.int .i64 k) ∧ Ext w w' := by
  have hA : HasHandle (w.alloc (.cells #[.int .i64 0] 22)) := hg.ext (Ext.alloc (Ext.refl w) _)
  go_enter Tryd.func16, Tryd.ntmps16
  go_wp2_with ((refine (as_hit k _ (.int .i64 0) _ hA (by simp) (by simp)).mono ?_); rintro e w' ⟨rfl, rfl⟩)
  go_ret
  refine ⟨rfl, (by show Below _ _ _; repeat' (first | (with_reducible exact Below.refl _ _) | (with_reducible assumption) | (with_reducible refine belowDrewN ?_ _) | (with_reducible refine Below.alloc ?_ ?_ _) | (with_reducible refine Below.drew ?_) | (with_reducible refine Below.setCell ?_ ?_ _) | go_size))⟩

theorem place_nil (w : World) : Calls Tryd.prog 11 #[.nilIface] w fun e w' => e = .returned (.tuple #[.int .i64 0, .int .i64 (-1)]) ∧ w' = w := by
  go_enter Tryd.func11, Tryd.ntmps11
  go_wp2_with ((refine (tell_nil _).mono ?_); rintro e w' ⟨rfl, rfl⟩)
  refine wp_loop_rounds 1 ?_
  rw [rounds_succ]
  go_wp2
  go_ret2
  exact ⟨rfl, rfl⟩
theorem place_errno (k : Int) (w : World) (hg : HasHandle w) : Calls Tryd.prog 11 #[.iface 22 (.int .i64 k)] w fun e w' => e = .returned (.tuple #[.int .i64 k, .int .i64 (-1)]) ∧ Ext w w' := by
  go_enter Tryd.func11, Tryd.ntmps11
  go_wp2_with ((refine (tell_errno k _ hg).mono ?_); rintro e w' ⟨rfl, hx⟩)
  refine wp_loop_rounds 1 ?_
  rw [rounds_succ]
  go_wp2
  go_ret2
  exact ⟨rfl, hx⟩

/-- The two errors that such a function gives: nil for 0, an Errno else. -/
def errOf (k : Int) : Value := if k = 0 then .nilIface else .iface 22 (.int .i64 k)

theorem place_errOf (k : Int) (w : World) (hg : HasHandle w) : Calls Tryd.prog 11 #[errOf k] w fun e w' => e = .returned (.tuple #[.int .i64 k, .int .i64 (-1)]) ∧ Ext w w' := by
  unfold errOf
  split
  · rename_i h; subst h
    exact (place_nil w).mono fun e w' ⟨h, k⟩ => ⟨h, by subst k; exact Ext.refl _⟩
  · exact place_errno k w hg

theorem bare_any (k e : Int) (w : World) (hg : HasHandle w) : Calls Tryd.prog 6 #[errOf k, .int .i64 e] w fun r w' => r = .returned (.bool (k == e)) ∧ Ext w w' := by
  generalize hv : errOf k = v
  go_enter Tryd.func6, Tryd.ntmps6
  go_wp2_with ((subst hv; refine (place_errOf k _ hg).mono ?_); rintro e w' ⟨rfl, hx⟩)
  all_goals go_ret
  all_goals refine ⟨?_, hx⟩
  all_goals (first | rfl | simp_all)
end Go.Proofs.YtnnoeckmkjhdbaaDoor
