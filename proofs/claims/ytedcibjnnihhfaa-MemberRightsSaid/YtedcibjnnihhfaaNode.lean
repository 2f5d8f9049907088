/-
  Contracts of tree.Right and of the reference's NodeRight.
-/
import Derived.Test.YtedcibjnnihhfaaTime
import Derived.Test.YtedcibjnnihhfaaShelf
import Derived.Lib.Bytealg
namespace Go.Proofs.Ytedcibjnnihhfaa
open Go.RowKit
variable (kd md ui gi ts tn ma mi : Int) (dt lk : ByteArray) (w : World)

theorem one_any (b : Bool) : Calls Try.prog 35 #[.bool b] w fun e w' => e = .returned (.int .i64 (if b = true then 1 else 0)) ∧ Ext w w' := by
  cases b
  all_goals
    go_enter Try.func35, Try.ntmps35
    go_wp2_with fail
    go_ret
    exact ⟨ret_int (by simp), (by show Below _ _ _; repeat' (first | (with_reducible exact Below.refl _ _) | (with_reducible assumption) | (with_reducible refine belowDrewN ?_ _) | (with_reducible refine Below.alloc ?_ ?_ _) | (with_reducible refine Below.drew ?_) | (with_reducible refine Below.setCell ?_ ?_ _) | go_size))⟩

/-- Where the first byte 0 lies, -1 if there is none. -/
def zi (s : ByteArray) : Int := Lib.indexByte s.data.toList 0

theorem plain_any (s : ByteArray) (most : Int) : Calls Try.prog 33 #[.string s, .int .i64 most] w fun e w' => e = .returned (.bool (decide ((s.size : Int) ≤ most) && decide (zi s < 0))) ∧ Ext w w' := by
  have c1 := fun w => Try.strings_Contains_one s 0 w
  have C1 := Lib.hid c1
  clear c1
  have hd : Hid (decide (zi s < 0) = !decide (0 ≤ Lib.indexByte s.data.toList 0)) := Lib.hid (by unfold zi; rw [Bool.eq_iff_iff]; simp)
  rw [hd.out]
  go_enter Try.func33, Try.ntmps33
  go_wp2_with ((with_reducible refine (C1.out _).mono ?_); rintro e w1 ⟨rfl, rfl⟩)
  all_goals
    go_ret
    exact ⟨ret_bool (by simp [*] <;> omega), (by show Below _ _ _; repeat' (first | (with_reducible exact Below.refl _ _) | (with_reducible assumption) | (with_reducible refine belowDrewN ?_ _) | (with_reducible refine Below.alloc ?_ ?_ _) | (with_reducible refine Below.drew ?_) | (with_reducible refine Below.setCell ?_ ?_ _) | go_size))⟩

/-- Is a device's number as it must be? -/
def devB (kd ma mi : Int) : Bool := decide (kd = 51) || decide (kd = 52) || (decide (ma = 0) && decide (mi = 0))
/-- A file is valid. -/
def nodeB (kd md ui gi ts tn ma mi : Int) (dt lk : ByteArray) : Bool :=
  rngB kd 48 54 && !(kd == 49) && rngB md 0 4095 && rngB ui 0 1099511627775 && rngB gi 0 1099511627775 && timeB ts tn &&
  (lk.toList.isEmpty == !(kd == 50)) && decide ((lk.size : Int) ≤ 120) && decide (zi lk < 0) && rngB ma 0 2097151 && rngB mi 0 2097151 &&
  (kd == 51 || kd == 52 || (ma == 0 && mi == 0)) && (if kd = 48 then decide ((dt.size : Int) ≤ 4000) else dt.toList.isEmpty)

end Go.Proofs.Ytedcibjnnihhfaa
