/-
  Small contracts for the reference's NodeRight.
-/
import Derived.Test.YtedcibjnnihhfaaNode
namespace Go.Proofs.Ytedcibjnnihhfaa
open Go.RowKit

theorem bcell3 {W w1 : World} (h : Ext W w1) : (∀ b o, b < W.heap.size → w1.cell? ⟨b, o, none⟩ = W.cell? ⟨b, o, none⟩) ∧ (∀ b o, b < W.heap.size → w1.frozen? ⟨b, o, none⟩ = W.frozen? ⟨b, o, none⟩) :=
  ⟨fun b o hb => h.cells b o hb, fun b o hb => h.frozens b o hb⟩
theorem within_rngE (n low high : Int) (w : World) : Calls Try.prog 32 #[.int .i64 n, .int .i64 low, .int .i64 high] w fun e w' => e = .returned (.bool (rngB n low high)) ∧ Ext w w' :=
  (within_rng n low high w).mono fun _ _ ⟨h, k⟩ => ⟨h, by rw [k]; exact Ext.refl _⟩
theorem one_lit (b : Bool) (w : World) : Calls Try.prog 35 #[.bool b] w fun e w' => e = .returned (.int .i64 (if b = true then 1 else 0)) ∧ Ext w w' := one_any w b
theorem rng_zero (n : Int) : rngB n 0 0 = (rngB n 0 2097151 && (n == 0)) := by
  unfold rngB
  rw [Bool.eq_iff_iff]
  simp
  omega
theorem size_zero (s : ByteArray) : decide ((s.size : Int) ≤ 0) = s.toList.isEmpty := by
  rw [ByteArray.toList_eq, Bool.eq_iff_iff]
  simp
  constructor
  · first | (rintro rfl; rfl) | (intro h; rw [h]; rfl) | (intro h; exact ByteArray.ext h)
  · first | (intro h; exact ByteArray.ext h) | (rintro rfl; rfl) | (intro h; rw [h]; rfl)
end Go.Proofs.Ytedcibjnnihhfaa
