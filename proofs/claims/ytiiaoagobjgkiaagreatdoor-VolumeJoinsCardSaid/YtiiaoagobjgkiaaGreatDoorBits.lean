/-
  Plain lemmas on the bits of numbers: or with a byte below, and with 127. No conditions.
-/
import Derived.PlainAid
import Derived.IntWalk
namespace Go.Proofs.YtiiaoagobjgkiaaGreatDoor
open Go.RowKit

/-- Or with a byte, of a number that is a multiple of 256: the sum. -/
theorem nat_or_byte (c b : Nat) (hb : b < 256) : (256 * c) ||| b = 256 * c + b := by
  have := Nat.two_pow_add_eq_or_of_lt (i := 8) (b := b) (by simpa using hb) c
  rw [show (2 : Nat) ^ 8 = 256 from rfl] at this
  exact this.symm
theorem or_byte_bv (x y : Int) (hx : x % 256 = 0) (h0 : 0 ≤ y) (h1 : y < 256) :
    (((BitVec.ofInt 64 x ||| BitVec.ofInt 64 y).toNat : Nat) : Int) = x % 18446744073709551616 + y := by
  rw [BitVec.toNat_or, BitVec.toNat_ofInt, BitVec.toNat_ofInt]
  have e1 : (x % ((2 ^ 64 : Nat) : Int)) = x % 18446744073709551616 := by simp
  have e2 : (y % ((2 ^ 64 : Nat) : Int)) = y := by
    have : ((2 ^ 64 : Nat) : Int) = 18446744073709551616 := by simp
    rw [this]; omega
  rw [e1, e2]
  obtain ⟨c, hc⟩ : ∃ c : Nat, (x % 18446744073709551616).toNat = 256 * c := ⟨(x % 18446744073709551616).toNat / 256, by omega⟩
  rw [hc, nat_or_byte c y.toNat (by omega)]
  omega
theorem or_byte_i64 {x y : Int} (hx : x % 256 = 0) (h0 : 0 ≤ y) (h1 : y < 256) (hl : -9223372036854775808 ≤ x) (hh : x < 9223372036854775808) : bits .or .i64 x y = x + y := by
  have h := or_byte_bv x y hx h0 h1
  unfold bits
  show IntKind.i64.wrap ((BitVec.ofInt 64 x ||| BitVec.ofInt 64 y).toNat : Nat) = x + y
  rw [h, IntKind.wrap_i64]
  omega
theorem or_byte_u64 {x y : Int} (hx : x % 256 = 0) (h0 : 0 ≤ y) (h1 : y < 256) (hl : 0 ≤ x) (hh : x < 18446744073709551616) : bits .or .u64 x y = x + y := by
  have h := or_byte_bv x y hx h0 h1
  unfold bits
  show IntKind.u64.wrap ((BitVec.ofInt 64 x ||| BitVec.ofInt 64 y).toNat : Nat) = x + y
  rw [h, IntKind.wrap_u64]
  omega
set_option maxRecDepth 100000 in
theorem and127_nat : ∀ a : Fin 256, (a.val &&& 127) = a.val % 128 := by decide
theorem and127_u8 {a : Int} (h0 : 0 ≤ a) (h1 : a < 256) : bits .and .u8 a 127 = a % 128 := by
  obtain ⟨n, rfl⟩ := Int.eq_ofNat_of_zero_le h0
  have hn : n < 256 := by omega
  have h := and127_nat ⟨n, hn⟩
  unfold bits
  show IntKind.u8.wrap ((BitVec.ofInt 8 (n : Int) &&& BitVec.ofInt 8 127).toNat : Nat) = _
  have e : (BitVec.ofInt 8 (n : Int) &&& BitVec.ofInt 8 127).toNat = n % 128 := by
    rw [BitVec.toNat_and]
    have : (BitVec.ofInt 8 (n : Int)).toNat = n := by rw [BitVec.toNat_ofInt]; omega
    rw [this]
    exact h
  rw [e, IntKind.wrap_u8]
  omega
end Go.Proofs.YtiiaoagobjgkiaaGreatDoor
