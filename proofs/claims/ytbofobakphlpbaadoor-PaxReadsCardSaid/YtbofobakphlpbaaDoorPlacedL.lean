/-
  An error, with a place or without: Place and 'placed'.
-/
import Derived.Test.YtbofobakphlpbaaDoorPlaced
namespace Go.Proofs.YtbofobakphlpbaaDoor
open Go.RowKit Go.Stop

/-- The value v is the error k (0: none) at the place pl (-1: none). -/
def IsErr (w : World) (v : Value) (k pl : Int) : Prop := (pl = -1 ∧ v = errOf k) ∨ ∃ b : Nat, v = .iface 90 (.pointer (some ⟨b, 0, none⟩)) ∧ IsAt w b k pl
theorem IsErr.ext {w w' : World} {v : Value} {k pl : Int} (h : IsErr w v k pl) (e : Ext w w') : IsErr w' v k pl := h.imp id fun ⟨b, hv, ha⟩ => ⟨b, hv, ha.ext e⟩
theorem place_any (v : Value) (k pl : Int) (w : World) (hg : HasHandle w) (h : IsErr w v k pl) : Calls Tryd.prog 27 #[v] w fun e w' => e = .returned (.tuple #[.int .i64 k, .int .i64 pl]) ∧ Ext w w' := by
  rcases h with ⟨rfl, rfl⟩ | ⟨b, rfl, ha⟩
  · exact place_errOf k w hg
  · exact place_at k pl b w hg ha

set_option maxHeartbeats 1600000 in
set_option maxRecDepth 100000 in
theorem placed_any (v : Value) (k pl e a : Int) (w : World) (hg : HasHandle w) (h : IsErr w v k pl) : Calls Tryd.prog 18 #[v, .agg #[.int .i64 e, .int .i64 a]] w fun x w' => x = .returned (.bool (k == e && pl == a)) ∧ Ext w w' := by
  have C1 := Lib.hid (fun w1 (hE : Ext w w1) => place_any v k pl w1 (hg.ext hE) (h.ext hE))
  have hx0 : Ext w (w.alloc (.cells #[.int .i64 e, .int .i64 a] 46)) := (Ext.refl w).alloc _
  have hcells : ∀ W : World, Ext (w.alloc (.cells #[.int .i64 e, .int .i64 a] 46)) W → W.cell? ⟨w.heap.size, 0, none⟩ = some (.int .i64 e) ∧ W.cell? ⟨w.heap.size, 1, none⟩ = some (.int .i64 a) ∧ w.heap.size < W.heap.size := fun W hW => by
    have h1 := hW.cell (show (w.alloc (.cells #[.int .i64 e, .int .i64 a] 46)).cell? ⟨w.heap.size, 0, none⟩ = some (.int .i64 e) by simp)
    have h2 := hW.cell (show (w.alloc (.cells #[.int .i64 e, .int .i64 a] 46)).cell? ⟨w.heap.size, 1, none⟩ = some (.int .i64 a) by simp)
    exact ⟨h1, h2, World.block_lt_of_cell? W _ h1⟩
  have Hcells := Lib.hid hcells
  clear hcells h
  cases hk : k == e with
  | true =>
    have Hk := Lib.hid hk
    cases hp : pl == a with
    | true =>
      have Hp := Lib.hid hp
      go_enter Tryd.func18, Tryd.ntmps18
      go_wp2_with fail
      refine (C1.out _ hx0).mono ?_; rintro x w1 ⟨rfl, hx1⟩
      obtain ⟨g1, g2, g3⟩ := Hcells.out w1 hx1
      go_wp2_with fail
      go_ret
      exact ⟨ret_bool (by simp), hx0.trans hx1⟩
    | false =>
      have Hp := Lib.hid hp
      go_enter Tryd.func18, Tryd.ntmps18
      go_wp2_with fail
      refine (C1.out _ hx0).mono ?_; rintro x w1 ⟨rfl, hx1⟩
      obtain ⟨g1, g2, g3⟩ := Hcells.out w1 hx1
      go_wp2_with fail
      go_ret
      exact ⟨ret_bool (by simp), hx0.trans hx1⟩
  | false =>
    have Hk := Lib.hid hk
    go_enter Tryd.func18, Tryd.ntmps18
    go_wp2_with fail
    refine (C1.out _ hx0).mono ?_; rintro x w1 ⟨rfl, hx1⟩
    obtain ⟨g1, g2, g3⟩ := Hcells.out w1 hx1
    go_wp2_with fail
    go_ret
    exact ⟨ret_bool (by simp), hx0.trans hx1⟩
theorem placed_same (v : Value) (k pl : Int) (w : World) (hg : HasHandle w) (h : IsErr w v k pl) : Calls Tryd.prog 18 #[v, .agg #[.int .i64 k, .int .i64 pl]] w fun x w' => x = .returned (.bool true) ∧ Ext w w' := by
  have := placed_any v k pl k pl w hg h
  simpa using this
end Go.Proofs.YtbofobakphlpbaaDoor
