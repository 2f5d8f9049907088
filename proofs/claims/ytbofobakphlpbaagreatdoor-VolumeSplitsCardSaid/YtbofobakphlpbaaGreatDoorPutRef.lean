/-
  The reference's MapPut.
-/
import Derived.Test.YtbofobakphlpbaaGreatDoorPut
import Derived.Test.YtbofobakphlpbaaGreatDoorHoleMap
import Derived.Test.YtbofobakphlpbaaGreatDoorShelf
import Derived.Test.YtbofobakphlpbaaGreatDoorDet
namespace Go.Proofs.YtbofobakphlpbaaGreatDoor
open Go.RowKit Go.WideShapes

theorem rep0 (c : Nat) (h1 : c ≤ 1000000) (w : World) : Calls Tryz.prog 55 #[.string ⟨#[0]⟩, .int .i64 (c : Int)] w fun e w' => e = .returned (.string ⟨(List.replicate c (0 : UInt8)).toArray⟩) ∧ Ext w w' := by
  have := Tryz.strings_Repeat ⟨#[0]⟩ c w (by omega) (by show 1 * _ ≤ _; omega)
  have e := Lib.repeatL_replicate 0 1 c
  have e2 : Lib.repeatL (⟨#[0]⟩ : ByteArray).data.toList c = List.replicate c 0 := by
    show Lib.repeatL [0] c = _
    rw [show [(0 : UInt8)] = List.replicate 1 0 from rfl, e, Nat.mul_one]
  rw [e2] at this
  exact this

/-- Between two rounds of MapPut. -/
def PutRel2 (d : ByteArray) (n : Nat) (A S : Nat → Int) (w : World) (dv out i : Value) (wr : World) : Prop :=
  ∃ (k : Nat) (t o : ByteArray), k ≤ n ∧ dv = .string t ∧ out = .string o ∧ i = .int .i64 (k : Int) ∧ t.size ≤ 600 ∧ Hid (t.data.toList = d.data.toList.drop (sN S k)) ∧ Hid (o.data.toList = outL d.data.toList A S k) ∧ Ext w wr

end Go.Proofs.YtbofobakphlpbaaGreatDoor
