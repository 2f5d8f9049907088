/-
  mode.Change's small callees: who and what.
-/
import Derived.Test.YtbofobakphlpbaaDoorNum
namespace Go.Proofs.YtbofobakphlpbaaDoor
open Go.RowKit Go.WideShapes

/-- The bits of a class of users. -/
def whoV (c : Int) : Int := if c = 117 then 2496 else if c = 103 then 1080 else if c = 111 then 519 else if c = 97 then 4095 else 0
set_option maxRecDepth 100000 in
theorem who_any (c : Int) (w : World) : Calls Tryd.prog 48 #[.int .u8 c] w fun e w' => e = .returned (.int .i64 (whoV c)) ∧ Ext w w' := by
  have hd : Hid (whoV c = if c = 117 then 2496 else if c = 103 then 1080 else if c = 111 then 519 else if c = 97 then 4095 else 0) := Lib.hid rfl
  go_enter Tryd.func48, Tryd.ntmps48
  go_wp2_with fail
  all_goals
    go_ret
    exact ⟨ret_val (by rw [hd.out]; simp_all), (by show Below _ _ _; repeat' (first | (with_reducible exact Below.refl _ _) | (with_reducible assumption) | (with_reducible refine belowDrewN ?_ _) | (with_reducible refine Below.alloc ?_ ?_ _) | (with_reducible refine Below.drew ?_) | (with_reducible refine Below.setCell ?_ ?_ _) | go_size))⟩
end Go.Proofs.YtbofobakphlpbaaDoor
