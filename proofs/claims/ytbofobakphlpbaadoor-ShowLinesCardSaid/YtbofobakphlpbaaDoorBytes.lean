/-
  A block of bytes of the call's own, told as a list.
-/
import Derived.Test.YtbofobakphlpbaaDoorNum
import Derived.Laws.IdiomStrings
import Derived.Deep.OwnRows
import Derived.Lib.SlBytesConst
namespace Go.Proofs.YtbofobakphlpbaaDoor
open Go.RowKit

/-- Block b holds the bytes l, and none of them is frozen. -/
def BytesAt (w : World) (b : Nat) (l : List UInt8) : Prop :=
  (∀ j (h : j < l.length), w.cell? ⟨b, j, none⟩ = some (.int .u8 (l[j].toNat : Int))) ∧ ∀ j, j < l.length → w.frozen? ⟨b, j, none⟩ = false
theorem BytesAt.lt {w : World} {b : Nat} {l : List UInt8} (h : BytesAt w b l) (h0 : 0 < l.length) : b < w.heap.size := World.block_lt_of_cell? w _ (h.1 0 h0)
theorem BytesAt.cell {w : World} {b : Nat} {l : List UInt8} (h : BytesAt w b l) {j : Nat} {x : UInt8} (hj : l[j]? = some x) : w.cell? ⟨b, j, none⟩ = some (.int .u8 (x.toNat : Int)) := by
  obtain ⟨hl, rfl⟩ := List.getElem?_eq_some_iff.1 hj
  exact h.1 j hl
theorem BytesAt.ext {w w' : World} {b : Nat} {l : List UInt8} (h : BytesAt w b l) (hE : Ext w w') : BytesAt w' b l := by
  refine ⟨fun j hj => hE.cell (h.1 j hj), fun j hj => ?_⟩
  have hb : b < w.heap.size := World.block_lt_of_cell? w _ (h.1 j hj)
  rw [hE.frozens b j hb]
  exact h.2 j hj
theorem BytesAt.drewN {w : World} {b : Nat} {l : List UInt8} (h : BytesAt w b l) (n : Nat) : BytesAt (w.drewN n) b l := h.ext ((Ext.refl w).drewN n)
theorem BytesAt.set {w : World} {b : Nat} {l : List UInt8} (h : BytesAt w b l) (k : Nat) (hk : k < l.length) (x : UInt8) : BytesAt (w.setCell ⟨b, k, none⟩ (.int .u8 (x.toNat : Int))) b (l.set k x) := by
  refine ⟨fun j hj => ?_, fun j hj => by rw [World.frozen?_setCell]; exact h.2 j (by simpa using hj)⟩
  have hj' : j < l.length := by simpa using hj
  by_cases e : k = j
  · subst e
    rw [World.cell?_setCell_same' _ _ _ (by rw [h.1 k hk]; rfl)]
    simp
  · rw [World.cell?_setCell_other (h := fun he => e (by injection he)), h.1 j hj']
    simp [List.getElem_set_ne e]
theorem BytesAt.ofAlloc (w : World) (C : Array Value) (t : TypeId) (m : Nat) (l : List UInt8) (hm : l.length ≤ m) (hC : ∀ j (h : j < l.length), C[j]? = some (.int .u8 (l[j].toNat : Int))) : BytesAt (w.alloc (.cells C t (m, m + 1))) w.heap.size l := by
  refine ⟨fun j hj => ?_, fun j hj => ?_⟩
  · rw [World.cell?_alloc_mark w C t (m, m + 1) j]
    exact hC j hj
  · rw [World.frozen?_alloc_mark]
    simp
    omega
theorem BytesAt.ofAlloc0 (w : World) (C : Array Value) (t : TypeId) (l : List UInt8) (hC : ∀ j (h : j < l.length), C[j]? = some (.int .u8 (l[j].toNat : Int))) : BytesAt (w.alloc (.cells C t)) w.heap.size l := by
  refine ⟨fun j hj => ?_, fun j hj => by simp⟩
  rw [World.cell?_alloc_mark w C t (0, 0) j]
  exact hC j hj
theorem add_zero_off (b j : Nat) : Addr.add ⟨b, 0, none⟩ j = ⟨b, j, none⟩ := by
  simp only [Addr.add]
  split <;> simp_all
theorem BytesAt.conv {w : World} {b : Nat} {l : List UInt8} (h : BytesAt w b l) (n c : Nat) (hn : l.length = n) :
    (convert 120 9 (.slice (some ⟨b, 0, none⟩) n c)).run Tryd.prog w = .ok (.string ⟨l.toArray⟩) w := by
  subst hn
  refine run_convert_bytes_back (P := Tryd.prog) w 120 9 5 ⟨b, 0, none⟩ c l Tryd.underlying120 Tryd.underlying5 Tryd.underlying9 ?_
  intro j hj
  rw [add_zero_off]
  exact h.1 j hj
end Go.Proofs.YtbofobakphlpbaaDoor
