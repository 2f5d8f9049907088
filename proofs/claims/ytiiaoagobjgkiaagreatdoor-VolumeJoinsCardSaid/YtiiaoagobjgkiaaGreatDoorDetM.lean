/-
  A region that draws its order and writes once into a map of the call's own, while cells are read: what stands meanwhile. No conditions.
-/
import Derived.Test.YtiiaoagobjgkiaaGreatDoorDetS
import Derived.Test.YtiiaoagobjgkiaaGreatDoorMapK
namespace Go.Proofs.YtiiaoagobjgkiaaGreatDoor
open Go.RowKit
open Go.Maps (Keyed)

theorem setF_setF (f : Lit → Option Value) (kl : Lit) (v : Value) : setF (setF f kl v) kl v = setF f kl v := by
  funext x
  unfold setF
  by_cases e : x = kl
  · rw [if_pos e, if_pos e]
  · simp only [if_neg e]
theorem setF_is (f : Lit → Option Value) (kl : Lit) (v : Value) : (setF f kl v kl).isSome = true := by
  unfold setF
  rw [if_pos rfl]
  rfl
theorem MapF.ext {P : Program} {k : TypeId} {w w' : World} {b c : Nat} {f : Lit → Option Value} (h : MapF w P k b c f) (hE : Ext w w') : MapF w' P k b c f := by
  have hl := h.lt
  obtain ⟨D, ⟨es, clock, hb, F⟩, r⟩ := h
  exact ⟨D, ⟨es, clock, (hE.block b hl).trans hb, F⟩, r⟩
theorem MapF.upd {P : Program} {k e t : TypeId} {w : World} {b c : Nat} {f : Lit → Option Value} (h : MapF w P k b c f) (K : Keyed P k) (ht : P.underlying t = some (.map k e)) (hn : c < maxLen) {key val : Value} {kl : Lit} (hkey : keyOf P k key = some kl) :
    ∃ w', (Instr.mapUpdate t (.map (some b)) key val).run P w = .ok () w' ∧ MapF w' P k b (if (f kl).isSome then c else c + 1) (setF f kl val) ∧ w.grownBy w' (some b) := by
  obtain ⟨D, h1, hT, hc, hf, hh⟩ := h
  obtain ⟨w', hrun, r1, r2⟩ := h1.update K ht hn hkey (show heldE val = some (.held val, []) from rfl)
  exact ⟨w', hrun, MapF.put kl (K.key hkey) val hT hc hf hh r1, r2⟩
/-- Since W0: all blocks but g read as they did; g is a map of c entries that gives f, and behind the writing (b) one more. -/
def MapS (P : Program) (k : TypeId) (w0 W0 : World) (g c : Nat) (f : Lit → Option Value) (kl : Lit) (v : Value) (b : Bool) (W : World) : Prop :=
  (∀ x o, x < W0.heap.size → x ≠ g → W.cell? ⟨x, o, none⟩ = W0.cell? ⟨x, o, none⟩) ∧ Ext w0 W ∧ MapF W P k g (if b = true then (if (f kl).isSome then c else c + 1) else c) (if b = true then setF f kl v else f) ∧ w0.heap.size ≤ g ∧ W0.heap.size ≤ W.heap.size
variable {P : Program} {k : TypeId} {w0 W0 : World} {g c : Nat} {f : Lit → Option Value} {kl : Lit} {v : Value}
theorem MapS.start (hE : Ext w0 W0) (hm : MapF W0 P k g c f) (hl : w0.heap.size ≤ g) : MapS P k w0 W0 g c f kl v false W0.drew := ⟨fun _ _ _ _ => rfl, hE.drew, hm.ext (Ext.refl W0).drew, hl, (Ext.refl W0).drew.size⟩
theorem MapS.write {o : Oper} {a : Act} {e t : TypeId} {key : Value} (x y z : Operand) (ho : o.op = .mapUpdate t x y z) (hx : a.eval x = .map (some g)) (hy : a.eval y = key) (hz : a.eval z = v) (K : Keyed P k) (ht : P.underlying t = some (.map k e)) (hn : c + 1 < maxLen) (hkey : keyOf P k key = some kl) :
    ∀ b w, MapS P k w0 W0 g c f kl v b w → ∃ w', (execOp a.eval o).run P w = .ok .skip w' ∧ MapS P k w0 W0 g c f kl v true w' := by
  intro b w hS
  obtain ⟨h1, h2, h3, h4, h5⟩ := hS
  have hc : (if b = true then (if (f kl).isSome then c else c + 1) else c) < maxLen := by split <;> (try split) <;> omega
  obtain ⟨w', hrun, r1, r2⟩ := h3.upd K ht hc hkey (val := v)
  refine ⟨w', ?_, fun q o' hq hne => ?_, h2.ofGrown r2 (fun j hj => by cases hj; exact h4), ?_, h4, Nat.le_trans h5 r2.size⟩
  · unfold execOp
    simp only [ho, hx, hy, hz, Sem.run_bind, hrun, Sem.run_pure, Result.andThen_ok]
  · rw [← h1 q o' hq hne]
    exact World.cell?_of_block (w := w) (r2.5 q (Nat.lt_of_lt_of_le hq h5) (fun e => by cases e; exact hne rfl))
  · rw [if_pos rfl, if_pos rfl]
    cases b with
    | false => exact r1
    | true =>
      rw [if_pos rfl, if_pos rfl, setF_setF, setF_is, if_pos rfl] at r1
      exact r1
end Go.Proofs.YtiiaoagobjgkiaaGreatDoor
