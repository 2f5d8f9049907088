/-
  Contracts of the functions on pieces: hole.Right, hole.Size, MapRight, MapSize.
-/
import Derived.Test.YtbofobakphlpbaaDoorNum
import Derived.Test.YtbofobakphlpbaaDoorRead
namespace Go.Proofs.YtbofobakphlpbaaDoor
open Go.RowKit Go.WideShapes

/-- The slice value v holds n pieces: piece k lies at A k and has S k bytes. -/
def IsPieces (w : World) (v : Value) (n : Nat) (A S : Nat → Int) : Prop :=
  ((∃ a c, v = .slice a 0 c) ∧ n = 0) ∨ ∃ (b off cap : Nat), v = .slice (some ⟨b, off, none⟩) n cap ∧ n ≤ 8796093022200 ∧
    ∀ k, k < n → w.cell? ⟨b, off + k * 2, none⟩ = some (.int .i64 (A k)) ∧ w.cell? ⟨b, off + k * 2 + 1, none⟩ = some (.int .i64 (S k))
theorem IsPieces.ext {w w' : World} {v : Value} {n : Nat} {A S : Nat → Int} (h : IsPieces w v n A S) (hE : Ext w w') : IsPieces w' v n A S :=
  h.imp id fun ⟨b, off, cap, hv, hn, hc⟩ => ⟨b, off, cap, hv, hn, fun k hk => ⟨hE.cell (hc k hk).1, hE.cell (hc k hk).2⟩⟩

/-- Piece k is as it must be. -/
def pieceB (A S : Nat → Int) (size : Int) (k : Nat) : Bool :=
  decide (1 ≤ S k) && decide (0 ≤ A k) && decide (S k ≤ size) && decide (A k ≤ size - S k) && (decide (k = 0) || decide (A (k - 1) + S (k - 1) < A k))
def holeB (n : Nat) (A S : Nat → Int) (size : Int) : Bool := decide (0 ≤ size) && decide (n ≤ 20) && (List.range n).all (pieceB A S size)

theorem holeB_bad {n k : Nat} {A S : Nat → Int} {size : Int} (hk : k < n) (h : pieceB A S size k = false) : holeB n A S size = false := by
  unfold holeB
  have : (List.range n).all (pieceB A S size) = false := by
    rw [List.all_eq_false]
    exact ⟨k, by simpa using hk, by simp [h]⟩
  simp [this]
theorem holeB_all {n : Nat} {A S : Nat → Int} {size : Int} (h0 : 0 ≤ size) (hn : n ≤ 20) (h : ∀ j, j < n → pieceB A S size j = true) : holeB n A S size = true := by
  unfold holeB
  have : (List.range n).all (pieceB A S size) = true := by
    rw [List.all_eq_true]
    intro x hx
    exact h x (by simpa using hx)
  simp [this, h0, hn]
theorem piece_split {A S : Nat → Int} {size : Int} {k : Nat} (h : pieceB A S size k = true) : 1 ≤ S k ∧ 0 ≤ A k ∧ S k ≤ size ∧ A k ≤ size - S k := by
  simp [pieceB] at h
  omega
theorem allBelow_succ {p : Nat → Bool} {k : Nat} (h : ∀ j, j < k → p j = true) (hk : p k = true) : ∀ j, j < k + 1 → p j = true := fun j hj => by
  rcases Nat.lt_succ_iff_lt_or_eq.1 hj with h' | rfl
  · exact h j h'
  · exact hk

end Go.Proofs.YtbofobakphlpbaaDoor
