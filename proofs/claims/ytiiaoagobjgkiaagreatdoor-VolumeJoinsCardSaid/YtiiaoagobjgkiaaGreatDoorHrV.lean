/-
  What a header tells: its fields in plain words, its dialect, a text up to its first byte 0. No conditions.
-/
import Derived.Test.YtiiaoagobjgkiaaGreatDoorHeadC
import Derived.Test.YtiiaoagobjgkiaaGreatDoorSum
import Derived.Test.YtiiaoagobjgkiaaGreatDoorReadN
import Derived.Test.YtiiaoagobjgkiaaGreatDoorHeadR
import Derived.Test.YtiiaoagobjgkiaaGreatDoorHrZ
namespace Go.Proofs.YtiiaoagobjgkiaaGreatDoor
open Go.RowKit Go.WideShapes Go.PlainAid

/-- Where the fields end. -/
def tEnd : Nat → Nat
  | 0 => 100
  | 1 => 257
  | 2 => 297
  | 3 => 329
  | _ => 500
def nEnd : Nat → Nat
  | 0 => 108
  | 1 => 116
  | 2 => 124
  | 3 => 136
  | 4 => 148
  | 5 => 337
  | _ => 345
/-- A field's text, and its number's. -/
def hT (s : ByteArray) (k : Nat) : ByteArray := cutZ (s.extract (tAt k) (tEnd k))
def hN (s : ByteArray) (k : Nat) : ByteArray := s.extract (nAt k) (nEnd k)
def isUst (s : ByteArray) : Bool := (s.extract 257 265).toList == ([117, 115, 116, 97, 114, 0, 48, 48] : List UInt8)
def isGnu (s : ByteArray) : Bool := (s.extract 257 265).toList == ([117, 115, 116, 97, 114, 32, 32, 0] : List UInt8)
/-- A header's dialect. -/
def dialV (s : ByteArray) : Int := if isUst s then 2 else if isGnu s then 3 else 1
theorem dialV_cases (s : ByteArray) : (isUst s = true ∧ isGnu s = false ∧ dialV s = 2) ∨ (isUst s = false ∧ isGnu s = true ∧ dialV s = 3) ∨ (isUst s = false ∧ isGnu s = false ∧ dialV s = 1) := by
  unfold dialV
  cases h1 : isUst s with
  | true =>
    refine .inl ⟨rfl, ?_, rfl⟩
    unfold isUst at h1
    unfold isGnu
    rw [eq_of_beq h1]
    decide
  | false =>
    cases h2 : isGnu s with
    | true => exact .inr (.inl ⟨rfl, rfl, rfl⟩)
    | false => exact .inr (.inr ⟨rfl, rfl, rfl⟩)
set_option maxHeartbeats 1600000 in
set_option maxRecDepth 100000 in
theorem dialectOf_any (s : ByteArray) (hs : s.size = 512) (w : World) : Calls Tryz.prog 114 #[.string s] w fun e w' => e = .returned (.int .i64 (dialV s)) ∧ Ext w w' := by
  have i1 : 265 ≤ s.size := by omega
  have hz := Lib.hid hs
  clear hs
  rcases dialV_cases s with ⟨h1, h2, h3⟩ | ⟨h1, h2, h3⟩ | ⟨h1, h2, h3⟩
  all_goals
    have H3 := Lib.hid h3
    clear h3
    unfold isUst at h1
    unfold isGnu at h2
    go_enter Tryz.func114, Tryz.ntmps114
    go_wp2_with fail
    go_ret
    exact ⟨ret_int (by rw [H3.out]), (by show Below _ _ _; repeat' (first | (with_reducible exact Below.refl _ _) | (with_reducible assumption) | (with_reducible refine belowDrewN ?_ _) | (with_reducible refine Below.alloc ?_ ?_ _) | (with_reducible refine Below.drew ?_) | (with_reducible refine Below.setCell ?_ ?_ _) | go_size))⟩
end Go.Proofs.YtiiaoagobjgkiaaGreatDoor
