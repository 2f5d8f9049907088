/-
  Whether a fault of the reference's is none. No conditions.
-/
import Derived.Test.YtnbcbipigiopbaaGreatDoorPkA
namespace Go.Proofs.YtnbcbipigiopbaaGreatDoor
open Go.RowKit

theorem faultIs_any (k p : Int) (w : World) : Calls Tryz.prog 22 #[.agg #[.int .i64 k, .int .i64 p]] w fun x w' => x = .returned (.bool (k == 0)) ∧ Ext w w' := by
  cases hk : k == 0 with
  | true =>
    go_enter Tryz.func22, Tryz.ntmps22
    go_wp2_with fail
    go_ret
    exact ⟨rfl, (by show Below _ _ _; repeat' (first | (with_reducible exact Below.refl _ _) | (with_reducible assumption) | (with_reducible refine belowDrewN ?_ _) | (with_reducible refine Below.alloc ?_ ?_ _) | (with_reducible refine Below.drew ?_) | (with_reducible refine Below.setCell ?_ ?_ _) | go_size))⟩
  | false =>
    go_enter Tryz.func22, Tryz.ntmps22
    go_wp2_with fail
    go_ret
    exact ⟨rfl, (by show Below _ _ _; repeat' (first | (with_reducible exact Below.refl _ _) | (with_reducible assumption) | (with_reducible refine belowDrewN ?_ _) | (with_reducible refine Below.alloc ?_ ?_ _) | (with_reducible refine Below.drew ?_) | (with_reducible refine Below.setCell ?_ ?_ _) | go_size))⟩
end Go.Proofs.YtnbcbipigiopbaaGreatDoor
