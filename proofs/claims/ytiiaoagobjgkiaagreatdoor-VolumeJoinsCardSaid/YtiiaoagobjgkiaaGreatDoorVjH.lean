/-
  A header that is a volume's, as the reference asks it. No conditions.
-/
import Derived.Test.YtiiaoagobjgkiaaGreatDoorVjR
namespace Go.Proofs.YtiiaoagobjgkiaaGreatDoor
open Go.RowKit

def volHb (Y : Nat → ByteArray) (kq : Int) (Q : Nat → Int) : Bool := decide (Y 0 = volNm) && (decide (kq = 77) && (rngB (Q 1) 1 20 && rngB (Q 0) 0 (Q 1 - 1)))
def volDb (s : ByteArray) (Q : Nat → Int) : Bool := rngB (Q 3) 0 ((s.size : Int) - 512) && decide (s.extract 512 s.size = s.extract 512 (512 + Q 3).toNat ++ padB (Q 3).toNat)
theorem ext_tail (s : ByteArray) (q : Nat) (h : 512 + q ≤ s.size) : (s.extract 512 s.size).extract 0 q = s.extract 512 (512 + q) := by
  apply ByteArray.ext
  rw [ByteArray.data_extract, ByteArray.data_extract, ByteArray.data_extract, Array.extract_extract]
  congr 1
  have : s.data.size = s.size := rfl
  omega
theorem volHD {Y : Nat → ByteArray} {kq : Int} {Q : Nat → Int} {s : ByteArray} (h : 512 ≤ s.size) : (volHb Y kq Q && volDb s Q) = true ↔ volH Y kq Q ∧ volD (s.extract 512 s.size) Q := by
  have hz : (s.extract 512 s.size).size = s.size - 512 := by rw [ByteArray.size_extract]; omega
  unfold volHb volDb volH volD rngB
  simp only [Bool.and_eq_true, decide_eq_true_eq]
  constructor
  · rintro ⟨⟨a, b, ⟨c1, c2⟩, d1, d2⟩, ⟨e1, e2⟩, f⟩
    refine ⟨⟨a, b, c1, c2, d1, by omega⟩, e1, by rw [hz]; omega, ?_⟩
    rw [ext_tail s (Q 3).toNat (by omega), show 512 + (Q 3).toNat = (512 + Q 3).toNat by omega]
    exact f
  · rintro ⟨⟨a, b, c1, c2, d1, d2⟩, e1, e2, f⟩
    rw [hz] at e2
    refine ⟨⟨a, b, ⟨c1, c2⟩, d1, by omega⟩, ⟨e1, by omega⟩, ?_⟩
    rw [ext_tail s (Q 3).toNat (by omega), show 512 + (Q 3).toNat = (512 + Q 3).toNat by omega] at f
    exact f
end Go.Proofs.YtiiaoagobjgkiaaGreatDoor
