/-
  A volume on both sides: what volume.read gives, and what the reference finds. No conditions but the text's length.
-/
import Derived.Test.YtiiaoagobjgkiaaGreatDoorVjR
import Derived.Test.YtiiaoagobjgkiaaGreatDoorHrS
namespace Go.Proofs.YtiiaoagobjgkiaaGreatDoor
open Go.RowKit

/-- What the reference finds of a volume whose outcome is X, kd, N, D, E. -/
def RefV (w : World) (s : ByteArray) (X : Nat → ByteArray) (kd : Int) (N : Nat → Int) (D : ByteArray) (E : Int) : Prop :=
  (s.size < 512 ∧ E = 3) ∨ (512 ≤ s.size ∧ ∃ (Y : Nat → ByteArray) (kq : Int) (Q : Nat → Int) (d k : Int),
    (∀ W, Ext w W → Calls Tryz.prog 37 #[.string (s.extract 0 512)] W fun x w' => x = .returned (.tuple #[.agg (rowRaw Y kq Q), .int .i64 d, .int .i64 k]) ∧ Ext W w') ∧
    ((k ≠ 0 ∧ E = k) ∨ (k = 0 ∧ E = 3 ∧ ¬ (volH Y kq Q ∧ volD (s.extract 512 s.size) Q)) ∨
      (k = 0 ∧ E = 0 ∧ volH Y kq Q ∧ volD (s.extract 512 s.size) Q ∧ Y = X ∧ kq = kd ∧ Q = N ∧ D = (s.extract 512 s.size).extract 0 (N 3).toNat)))
theorem RefV.ext {w w' : World} {s : ByteArray} {X : Nat → ByteArray} {kd : Int} {N : Nat → Int} {D : ByteArray} {E : Int} (h : RefV w s X kd N D E) (hE : Ext w w') : RefV w' s X kd N D E :=
  h.imp id fun ⟨h1, Y, kq, Q, d, k, c, r⟩ => ⟨h1, Y, kq, Q, d, k, fun W hW => c W (hE.trans hW), r⟩
theorem vol_both (s : ByteArray) (hs : s.size ≤ 40000) (w : World) (hm : HasMax w) : ∃ (X : Nat → ByteArray) (kd : Int) (N : Nat → Int) (D : ByteArray) (E : Int),
    (∀ W, Ext w W → Calls Tryz.prog 41 #[.string s] W fun x w' => x = .returned (.tuple #[.agg (rowRaw X kd N), .string D, errOf E]) ∧ Ext W w') ∧ RefV w s X kd N D E ∧ D.size ≤ 40000 ∧ (E = 0 → 0 ≤ N 0 ∧ N 0 < N 1 ∧ N 1 ≤ 20) ∧ (E ≠ 0 → N 0 = 0) := by
  by_cases h : s.size < 512
  · exact ⟨noX, 0, noN, ⟨#[]⟩, 3, fun W _ => volRead_small s h W, .inl ⟨h, rfl⟩, by decide, fun e => absurd e (by decide), fun _ => rfl⟩
  · obtain ⟨X, kd, N, d, k, a, r⟩ := head_both (s.extract 0 512) (by rw [ByteArray.size_extract]; omega)
    by_cases hk : k = 0
    · subst hk
      by_cases hb : volH X kd N ∧ volD (s.extract 512 s.size) N
      · exact ⟨X, kd, N, (s.extract 512 s.size).extract 0 (N 3).toNat, 0, fun W hW => volRead_good s hs (by omega) X kd N d a hb W (hm.ext hW), .inr ⟨by omega, X, kd, N, d, 0, fun W hW => r W (hm.ext hW), .inr (.inr ⟨rfl, rfl, hb.1, hb.2, rfl, rfl, rfl, rfl⟩)⟩, by rw [ByteArray.size_extract, ByteArray.size_extract]; omega, fun _ => ⟨hb.1.2.2.2.2.1, hb.1.2.2.2.2.2, hb.1.2.2.2.1⟩, fun e => absurd rfl e⟩
      · exact ⟨noX, 0, noN, ⟨#[]⟩, 3, fun W hW => volRead_bad s hs (by omega) X kd N d a hb W (hm.ext hW), .inr ⟨by omega, X, kd, N, d, 0, fun W hW => r W (hm.ext hW), .inr (.inl ⟨rfl, rfl, hb⟩)⟩, by decide, fun e => absurd e (by decide), fun _ => rfl⟩
    · exact ⟨noX, 0, noN, ⟨#[]⟩, k, fun W hW => volRead_err s hs (by omega) X kd N d k a hk W (hm.ext hW), .inr ⟨by omega, X, kd, N, d, k, fun W hW => r W (hm.ext hW), .inl ⟨hk, rfl⟩⟩, by decide, fun e => absurd e hk, fun _ => rfl⟩
end Go.Proofs.YtiiaoagobjgkiaaGreatDoor
