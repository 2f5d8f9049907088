/-
  Where a header's fields begin and how long they are; a byte stored into a block of cells; the tables of fields read at a number. No conditions.
-/
import Derived.Test.YtiiaoagobjgkiaaGreatDoorHeadW
import Derived.Test.YtiiaoagobjgkiaaGreatDoorHeadS
import Derived.Test.YtiiaoagobjgkiaaGreatDoorRead
import Derived.Test.YtiiaoagobjgkiaaGreatDoorBare
import Derived.PlainAid
namespace Go.Proofs.YtiiaoagobjgkiaaGreatDoor
open Go.RowKit Go.WideShapes Go.PlainAid

def tAt : Nat → Nat
  | 0 => 0
  | 1 => 157
  | 2 => 265
  | 3 => 297
  | _ => 345
def tLong : Nat → Nat
  | 0 => 100
  | 1 => 100
  | 2 => 32
  | 3 => 32
  | _ => 155
def nAt : Nat → Nat
  | 0 => 100
  | 1 => 108
  | 2 => 116
  | 3 => 124
  | 4 => 136
  | 5 => 329
  | _ => 337
def nLong : Nat → Nat
  | 3 => 12
  | 4 => 12
  | _ => 8
theorem errOf_ne {k : Int} (h : k ≠ 0) : errOf k = .iface 23 (.int .i64 k) := by unfold errOf; rw [if_neg h]
/-- A byte stored into a block of cells. -/
theorem cells_setCell {w : World} {g i : Nat} {C : Array Value} {t : TypeId} {v : Value} (h : w.heap[g]? = some (.cells C t (0, 0))) : (w.setCell ⟨g, i, none⟩ v).heap[g]? = some (.cells (C.setIfInBounds i v) t (0, 0)) := by
  have hlt := lt_of_block h
  have h' : w.heap[g] = .cells C t (0, 0) := by simpa [Array.getElem?_eq_getElem hlt] using h
  show (w.heap.modify g _)[g]? = _
  rw [Array.getElem?_eq_getElem (by simpa using hlt), Array.getElem_modify_self, h']
  rfl
set_option maxRecDepth 100000 in
theorem idxPs : (∀ (a0 a1 a2 a3 a4 : Value) (w : World), (Instr.index 183 (.agg #[a0, a1, a2, a3, a4]) (.int .i64 0)).run Tryz.prog w = .ok a0 w) ∧ (∀ (a0 a1 a2 a3 a4 : Value) (w : World), (Instr.index 183 (.agg #[a0, a1, a2, a3, a4]) (.int .i64 1)).run Tryz.prog w = .ok a1 w) ∧ (∀ (a0 a1 a2 a3 a4 : Value) (w : World), (Instr.index 183 (.agg #[a0, a1, a2, a3, a4]) (.int .i64 2)).run Tryz.prog w = .ok a2 w) ∧ (∀ (a0 a1 a2 a3 a4 : Value) (w : World), (Instr.index 183 (.agg #[a0, a1, a2, a3, a4]) (.int .i64 3)).run Tryz.prog w = .ok a3 w) ∧ (∀ (a0 a1 a2 a3 a4 : Value) (w : World), (Instr.index 183 (.agg #[a0, a1, a2, a3, a4]) (.int .i64 4)).run Tryz.prog w = .ok a4 w) := by
  refine ⟨?_, ?_, ?_, ?_, ?_⟩ <;> (intros; kernel_rfl)
set_option maxRecDepth 100000 in
theorem idxTs : (∀ (a0 b0 a1 b1 a2 b2 a3 b3 a4 b4 : Value) (w : World), (Instr.index 185 (.agg #[a0, b0, a1, b1, a2, b2, a3, b3, a4, b4]) (.int .i64 0)).run Tryz.prog w = .ok (.agg #[a0, b0]) w) ∧ (∀ (a0 b0 a1 b1 a2 b2 a3 b3 a4 b4 : Value) (w : World), (Instr.index 185 (.agg #[a0, b0, a1, b1, a2, b2, a3, b3, a4, b4]) (.int .i64 1)).run Tryz.prog w = .ok (.agg #[a1, b1]) w) ∧ (∀ (a0 b0 a1 b1 a2 b2 a3 b3 a4 b4 : Value) (w : World), (Instr.index 185 (.agg #[a0, b0, a1, b1, a2, b2, a3, b3, a4, b4]) (.int .i64 2)).run Tryz.prog w = .ok (.agg #[a2, b2]) w) ∧ (∀ (a0 b0 a1 b1 a2 b2 a3 b3 a4 b4 : Value) (w : World), (Instr.index 185 (.agg #[a0, b0, a1, b1, a2, b2, a3, b3, a4, b4]) (.int .i64 3)).run Tryz.prog w = .ok (.agg #[a3, b3]) w) ∧ (∀ (a0 b0 a1 b1 a2 b2 a3 b3 a4 b4 : Value) (w : World), (Instr.index 185 (.agg #[a0, b0, a1, b1, a2, b2, a3, b3, a4, b4]) (.int .i64 4)).run Tryz.prog w = .ok (.agg #[a4, b4]) w) := by
  refine ⟨?_, ?_, ?_, ?_, ?_⟩ <;> (intros; kernel_rfl)
set_option maxRecDepth 100000 in
theorem idxNs : (∀ (a0 b0 a1 b1 a2 b2 a3 b3 a4 b4 a5 b5 a6 b6 : Value) (w : World), (Instr.index 180 (.agg #[a0, b0, a1, b1, a2, b2, a3, b3, a4, b4, a5, b5, a6, b6]) (.int .i64 0)).run Tryz.prog w = .ok (.agg #[a0, b0]) w) ∧ (∀ (a0 b0 a1 b1 a2 b2 a3 b3 a4 b4 a5 b5 a6 b6 : Value) (w : World), (Instr.index 180 (.agg #[a0, b0, a1, b1, a2, b2, a3, b3, a4, b4, a5, b5, a6, b6]) (.int .i64 1)).run Tryz.prog w = .ok (.agg #[a1, b1]) w) ∧ (∀ (a0 b0 a1 b1 a2 b2 a3 b3 a4 b4 a5 b5 a6 b6 : Value) (w : World), (Instr.index 180 (.agg #[a0, b0, a1, b1, a2, b2, a3, b3, a4, b4, a5, b5, a6, b6]) (.int .i64 2)).run Tryz.prog w = .ok (.agg #[a2, b2]) w) ∧ (∀ (a0 b0 a1 b1 a2 b2 a3 b3 a4 b4 a5 b5 a6 b6 : Value) (w : World), (Instr.index 180 (.agg #[a0, b0, a1, b1, a2, b2, a3, b3, a4, b4, a5, b5, a6, b6]) (.int .i64 3)).run Tryz.prog w = .ok (.agg #[a3, b3]) w) ∧ (∀ (a0 b0 a1 b1 a2 b2 a3 b3 a4 b4 a5 b5 a6 b6 : Value) (w : World), (Instr.index 180 (.agg #[a0, b0, a1, b1, a2, b2, a3, b3, a4, b4, a5, b5, a6, b6]) (.int .i64 4)).run Tryz.prog w = .ok (.agg #[a4, b4]) w) ∧ (∀ (a0 b0 a1 b1 a2 b2 a3 b3 a4 b4 a5 b5 a6 b6 : Value) (w : World), (Instr.index 180 (.agg #[a0, b0, a1, b1, a2, b2, a3, b3, a4, b4, a5, b5, a6, b6]) (.int .i64 5)).run Tryz.prog w = .ok (.agg #[a5, b5]) w) ∧ (∀ (a0 b0 a1 b1 a2 b2 a3 b3 a4 b4 a5 b5 a6 b6 : Value) (w : World), (Instr.index 180 (.agg #[a0, b0, a1, b1, a2, b2, a3, b3, a4, b4, a5, b5, a6, b6]) (.int .i64 6)).run Tryz.prog w = .ok (.agg #[a6, b6]) w) := by
  refine ⟨?_, ?_, ?_, ?_, ?_, ?_, ?_⟩ <;> (intros; kernel_rfl)
end Go.Proofs.YtiiaoagobjgkiaaGreatDoor
