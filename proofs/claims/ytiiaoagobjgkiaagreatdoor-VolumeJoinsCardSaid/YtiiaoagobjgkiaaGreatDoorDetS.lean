/-
  A region that draws its order and stores once into a block of the call's own, while other blocks are read: what stands meanwhile. No conditions.
-/
import Derived.Test.YtiiaoagobjgkiaaGreatDoorDetF
import Derived.Laws.Tables
import Derived.Laws.Rows
import Derived.Laws.CopyOwn
namespace Go.Proofs.YtiiaoagobjgkiaaGreatDoor
open Go.RowKit

section
variable {P : Program} {ops : Array Oper} {S : Bool → World → Prop} {K : Bool → Act → Prop} {o : Oper} {os : List Oper} {a : Act} {b : Bool}
/-- The store: it turns the flag. -/
theorem detF_store (hw : Region.wanted o (yielded ops a.tmps) = true) (h : ∀ b w, S b w → ∃ w', (execOp a.eval o).run P w = .ok .skip w' ∧ S true w')
    (hn : detGoF P ops S K os true (a.put o.dst undef)) : detGoF P ops S K (o :: os) b a :=
  ⟨undef, true, .inl ⟨hw, fun b w hS => by
    obtain ⟨w', h1, h2⟩ := h b w hS
    rw [h1, Bool.or_true]
    exact ⟨rfl, h2⟩⟩, by rw [Bool.or_true]; exact hn⟩
end
/-- Since W0: all blocks but g read as they did; g holds cs0, and behind the store (b) cs1; of what was there in w0 nothing has turned. -/
def StoreS (w0 W0 : World) (g : Nat) (cs0 cs1 : Array Value) (t : TypeId) (b : Bool) (W : World) : Prop :=
  (∀ c o, c < W0.heap.size → c ≠ g → W.cell? ⟨c, o, none⟩ = W0.cell? ⟨c, o, none⟩) ∧ Ext w0 W ∧ W.heap[g]? = some (.cells (if b = true then cs1 else cs0) t (0, 0)) ∧ w0.heap.size ≤ g
variable {w0 W0 : World} {g : Nat} {cs0 cs1 : Array Value} {t : TypeId}
theorem StoreS.start (hE : Ext w0 W0) (hg : W0.heap[g]? = some (.cells cs0 t (0, 0))) (hl : w0.heap.size ≤ g) : StoreS w0 W0 g cs0 cs1 t false W0.drew := ⟨fun _ _ _ _ => rfl, hE.drew, hg, hl⟩
theorem StoreS.store {P : Program} {o : Oper} {a : Act} (ty : TypeId) (x y : Operand) (ho : o.op = .store ty x y) (hx : a.eval x = .pointer (some ⟨g, 0, none⟩)) (hy : a.eval y = .agg cs1) (hi : (P.info? ty).map (·.size) = some cs1.size) (hsz : cs0.size = cs1.size) (h1 : cs1.all (·.oneCell') = true) :
    ∀ b w, StoreS w0 W0 g cs0 cs1 t b w → ∃ w', (execOp a.eval o).run P w = .ok .skip w' ∧ StoreS w0 W0 g cs0 cs1 t true w' := by
  intro b w hS
  refine ⟨w.setRow g cs1, ?_, fun c o' hc hne => ?_, below_setRow hS.2.1 hS.2.2.2 _, by rw [if_pos rfl]; exact setRow_heap w g _ _ _ _ hS.2.2.1, hS.2.2.2⟩
  · unfold execOp
    simp only [ho, hx, hy, Instr.storeAt, Instr.sureAddr, Sem.run_bind, Sem.run_pure, Result.andThen_ok, run_storeVar_row w g t ty _ cs1 hS.2.2.1 hi (by split <;> simp [hsz]) h1]
  · rw [cell_setRow_other _ _ _ _ hne]
    exact hS.1 c o' hc hne
end Go.Proofs.YtiiaoagobjgkiaaGreatDoor
