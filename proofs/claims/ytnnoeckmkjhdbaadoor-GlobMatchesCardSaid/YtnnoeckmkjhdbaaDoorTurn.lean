/-
  Worlds in which some blocks of the call's own have turned, and no other block that was there. No conditions.
-/
import Derived.Test.YtnnoeckmkjhdbaaDoorKit
import Derived.Maps.OwnSet
namespace Go.Proofs.YtnnoeckmkjhdbaaDoor
open Go.RowKit

/-- w' is w but for the blocks that D names; new blocks are free. -/
structure Turn (D : Nat → Prop) (w w' : World) : Prop where
  os : w'.os = w.os
  tape : w'.tape = w.tape
  output : w'.output = w.output
  size : w.heap.size ≤ w'.heap.size
  block : ∀ k, k < w.heap.size → ¬ D k → w'.heap[k]? = w.heap[k]?

variable {D D' : Nat → Prop} {a b c w w' : World}
theorem Turn.refl (w : World) : Turn D w w := ⟨rfl, rfl, rfl, Nat.le_refl _, fun _ _ _ => rfl⟩
theorem Turn.trans (h : Turn D a b) (k : Turn D' b c) (hd : ∀ i, D' i → D i ∨ a.heap.size ≤ i) : Turn D a c :=
  ⟨k.os.trans h.os, k.tape.trans h.tape, k.output.trans h.output, Nat.le_trans h.size k.size, fun i hi hn =>
    (k.block i (Nat.lt_of_lt_of_le hi h.size) (fun hd' => by
      rcases hd i hd' with h1 | h1
      · exact hn h1
      · omega)).trans (h.block i hi hn)⟩
theorem Turn.mono (h : Turn D a b) (hd : ∀ i, D i → D' i) : Turn D' a b := ⟨h.os, h.tape, h.output, h.size, fun i hi hn => h.block i hi (fun x => hn (hd i x))⟩
theorem Ext.turn (h : Ext a b) : Turn D a b := ⟨h.os, h.tape, h.output, h.size, fun i hi _ => Below.block h i hi⟩
/-- Nothing older than w0 has turned, if D names newer blocks alone. -/
theorem Turn.ext {w0 : World} (h0 : Ext w0 a) (h : Turn D a b) (hd : ∀ i, D i → w0.heap.size ≤ i) : Ext w0 b :=
  ⟨h.os.trans h0.os, h.tape.trans h0.tape, h.output.trans h0.output, Nat.le_trans h0.size h.size, fun i hi =>
    (h.block i (Nat.lt_of_lt_of_le hi h0.size) (fun hx => by have := hd i hx; omega)).trans (Below.block h0 i hi)⟩
theorem Turn.thenExt (h : Turn D a b) (k : Ext b c) : Turn D a c := h.trans (D' := fun _ => False) k.turn (fun _ hx => hx.elim)
theorem Turn.grown (h : Turn D a b) {row : Option Nat} (hg : b.grownBy c row) (hr : ∀ i, row = some i → D i ∨ a.heap.size ≤ i) : Turn D a c :=
  h.trans (D' := fun i => row = some i) ⟨hg.os, hg.tape, hg.output, hg.size, fun i hi hn => hg.block i hi (fun e => hn e.symm)⟩ (fun i hi => hr i hi)
theorem Turn.mapTurned (h : Turn D a b) {m : Nat} (hg : b.mapTurned c m) (hr : D m ∨ a.heap.size ≤ m) : Turn D a c := h.grown hg.grown (fun i e => by cases e; exact hr)
theorem Turn.alloc (h : Turn D a b) (o : Obj) : Turn D a (b.alloc o) := h.grown (World.grownBy_alloc b o none) (fun _ e => by cases e)
theorem Turn.setCell (h : Turn D a b) {p : Addr} (hp : D p.block ∨ a.heap.size ≤ p.block) (u : Value) : Turn D a (b.setCell p u) := by
  have hb := Below.setCell (B := 0) (Below.refl 0 b) (Nat.zero_le _) u (p := p)
  refine ⟨hb.os.trans h.os, hb.tape.trans h.tape, hb.output.trans h.output, Nat.le_trans h.size hb.size, fun i hi hn => ?_⟩
  have hne : i ≠ p.block := fun e => by
    rcases hp with h1 | h1
    · exact hn (e ▸ h1)
    · omega
  rw [Below.heap_setCell _ _ _ _ hne]
  exact h.block i hi hn
theorem Turn.cell (h : Turn D a b) {p : Addr} {v : Value} (hc : a.cell? p = some v) (hn : ¬ D p.block) : b.cell? p = some v :=
  (World.cell?_of_block (h.block p.block (World.block_lt_of_cell? a p hc) hn)).trans hc
theorem Turn.heap (h : Turn D a b) {i : Nat} {o : Obj} (hc : a.heap[i]? = some o) (hn : ¬ D i) : b.heap[i]? = some o :=
  (h.block i (Array.getElem?_eq_some_iff.1 hc).1 hn).trans hc
end Go.Proofs.YtnnoeckmkjhdbaaDoor
