/-
  A drawing region with a store in its head and one as its last operation: the head's store turns the flag. No conditions.
-/
import Derived.Test.YtnnoeckmkjhdbaaDoorDetA
namespace Go.Proofs.YtnnoeckmkjhdbaaDoor
open Go.RowKit
section
variable {P : Program} {ops : Array Oper} {S : Bool → Option Value → World → Prop}
variable {K : Bool → Option Value → Act → Prop} {o : Oper} {os : List Oper} {a : Act} {b : Bool} {p : Option Value} {k ka : Nat}
def storePost (T : World → Prop) : Exit → Act → World → Prop
  | .normal, _, w' => T w'
  | _, _, _ => False
theorem detT_write (hka : k ≠ ka) (hd : o.dst = none) (hop : ∃ ty x y, o.op = .store ty x y) (hw : Region.wanted o (yielded ops a.tmps) = true) (h : ∀ b p w, S b p w → wpList P ops (storePost (S true p)) [o] a w)
    (hn : detGoT P ops S ka K os (k + 1) true p (a.put o.dst undef)) : detGoT P ops S ka K (o :: os) k b p a := by
  refine .inl ⟨hka, undef, true, .inl ⟨hw, fun b p w hS => ?_⟩, by rw [Bool.or_true]; exact hn⟩
  rw [Bool.or_true]
  have hl := h b p w hS
  unfold wpList at hl
  rw [if_pos hw] at hl
  obtain ⟨ty, x, y, hop⟩ := hop
  have hr : ∃ r : Result Unit, (execOp a.eval o).run P w = r.andThen fun _ w' => .ok .skip w' := by
    simp only [execOp, hop]
    rw [Sem.run_bind]
    exact ⟨_, rfl⟩
  obtain ⟨r, hr⟩ := hr
  rcases hl with hl | ⟨_, hl⟩
  · unfold Oper.wp at hl
    rw [hr] at hl ⊢
    cases r with
    | ok u w' =>
      simp only [Result.andThen, leaves, Oper.upon] at hl ⊢
      exact ⟨trivial, hl⟩
    | halt x w' =>
      cases x <;> simp only [Result.andThen, leaves, Oper.upon] at hl ⊢
      all_goals first | exact hl | exact hl.elim
  · obtain ⟨_, _, hf⟩ := hl
    exact hf.elim
end
end Go.Proofs.YtnnoeckmkjhdbaaDoor
