/-
  Members: when one is valid; the small functions of both sides.
-/
import Derived.Test.YtedcibjnnihhfaaNode
import Derived.Test.YtedcibjnnihhfaaNodeQ
import Derived.Test.YtedcibjnnihhfaaEnt
import Derived.Test.YtedcibjnnihhfaaHoleMap
import Derived.Test.YtedcibjnnihhfaaHoleSize
import Derived.Test.YtedcibjnnihhfaaPieces
namespace Go.Proofs.Ytedcibjnnihhfaa
open Go.RowKit Go.WideShapes

theorem memWithin_same (w : World) (n low high : Int) : Calls Try.prog 25 #[.int .i64 n, .int .i64 low, .int .i64 high] w fun e w' => e = .returned (.bool (rngB n low high)) ∧ w' = w := by
  go_enter Try.func25, Try.ntmps25
  go_wp2_with fail
  all_goals
    go_ret
    exact ⟨ret_bool (by simp [rngB, *] <;> omega), rfl⟩
theorem isLink_same (w : World) (k : Int) : Calls Try.prog 29 #[.int .u8 k] w fun e w' => e = .returned (.bool (k == 49 || k == 50)) ∧ w' = w := by
  go_enter Try.func29, Try.ntmps29
  go_wp2_with fail
  all_goals
    go_ret
    exact ⟨ret_bool (by simp [*]), rfl⟩
theorem isDevice_same (w : World) (k : Int) : Calls Try.prog 30 #[.int .u8 k] w fun e w' => e = .returned (.bool (k == 51 || k == 52)) ∧ w' = w := by
  go_enter Try.func30, Try.ntmps30
  go_wp2_with fail
  all_goals
    go_ret
    exact ⟨ret_bool (by simp [*]), rfl⟩

/-- A text of at most so many bytes, none of them 0. -/
def txB (s : ByteArray) (most : Int) : Bool := decide ((s.size : Int) ≤ most) && decide (zi s < 0)
theorem isText_same (w : World) (s : ByteArray) (most : Int) : Calls Try.prog 27 #[.string s, .int .i64 most] w fun e w' => e = .returned (.bool (txB s most)) ∧ w' = w := by
  have c1 := fun w => Try.strings_IndexByte s 0 w
  rw [show Lib.indexByte s.data.toList (Int.toNat 0).toUInt8 = zi s from rfl] at c1
  have C1 := Lib.hid c1
  have hd : Hid (txB s most = (decide ((s.size : Int) ≤ most) && decide (zi s < 0))) := Lib.hid rfl
  clear c1
  generalize zi s = z at *
  go_enter Try.func27, Try.ntmps27
  go_wp2_with ((with_reducible refine (C1.out _).mono ?_); rintro e w1 ⟨rfl, rfl⟩)
  all_goals
    go_ret
    exact ⟨ret_bool (by rw [hd.out]; simp [*] <;> omega), rfl⟩
theorem refPlain_any (w : World) (s : ByteArray) (most : Int) : Calls Try.prog 33 #[.string s, .int .i64 most] w fun e w' => e = .returned (.bool (txB s most)) ∧ Ext w w' := plain_any w s most

/-- It ends in a slash. -/
def sufB (s : ByteArray) : Bool := Lib.hasSuffix s.data.toList [47]
/-- Has it holes? -/
def spB (sz : Int) (dt : ByteArray) (n : Nat) : Bool := decide (0 < n) || !((dt.size : Int) == sz)
/-- Its size and its bytes are as they must be. -/
def filB (kd sz : Int) (dt : ByteArray) (n : Nat) (A S : Nat → Int) : Bool :=
  if kd = 48 then rngB sz 0 4000 && (!spB sz dt n || (holeB n A S sz && ((dt.size : Int) == sumW S n))) else (sz == 0) && dt.toList.isEmpty && decide (n = 0)
/-- A member is valid. -/
def memB (kd md ui gi sz ts tn ma mi : Int) (nm lk us gr dt : ByteArray) (n : Nat) (A S : Nat → Int) : Bool :=
  rngB kd 48 54 && !nm.toList.isEmpty && !sufB nm && txB nm 120 && txB lk 120 && txB us 32 && txB gr 32 && rngB md 0 4095 && rngB ui 0 1099511627775 && rngB gi 0 1099511627775 && timeB ts tn &&
  (lk.toList.isEmpty == !(kd == 49 || kd == 50)) && rngB ma 0 2097151 && rngB mi 0 2097151 && (kd == 51 || kd == 52 || (ma == 0 && mi == 0)) && filB kd sz dt n A S
end Go.Proofs.Ytedcibjnnihhfaa
