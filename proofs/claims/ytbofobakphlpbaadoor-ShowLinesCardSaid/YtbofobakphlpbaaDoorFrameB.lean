/-
  The frame of a law of a door seat, whose row lists errors.errorType and tables of the library, both.
-/
import Derived.Test.YtbofobakphlpbaaDoorFrameD
import Derived.Test.YtbofobakphlpbaaDoorFrameP
namespace Go.Proofs.YtbofobakphlpbaaDoor.Frame
open Go.ChangeShapes Go.WideShapes Go.ChangeAt Go.RowKit

/-- The listed variables that are data. -/
def dataOf (laid : List (String × DataW Unit)) : List (String × DataW Unit) := laid.filter fun x => x.2.handleName?.isNone
theorem handle_of_laidB {laid : List (String × DataW Unit)} {W : World} (hf : (laid.filter fun x => x.2.handleName?.isSome) = [("errors.errorType", Rows.laid_errors_errorType)]) (h : laidMetH Tryd.prog laid W) : HasHandle W := by
  unfold laidMetH at h
  rw [hf] at h
  refine handle_of_laid (W := W) ?_
  exact (show laidMet Tryd.prog [] W ∧ handlesMet Tryd.prog [("errors.errorType", Rows.laid_errors_errorType)] W from ⟨⟨[], rfl, List.nodup_nil, fun _ _ h => by cases h⟩, h.2⟩)
theorem data_of_laidB {laid : List (String × DataW Unit)} {W : World} (hf : (laid.filter fun x => x.2.handleName?.isSome) = [("errors.errorType", Rows.laid_errors_errorType)]) (h : laidMetH Tryd.prog laid W) : laidMet Tryd.prog (dataOf laid) W := by
  unfold laidMetH at h
  rw [hf] at h
  exact h.1

/-- The world in which the listed variables lie. -/
noncomputable def bothWorld (os : Os) (laid : List (String × DataW Unit)) : World := (laidWorld os).layVars Tryd.prog (dataOf laid)
theorem bothWorld_met {os : Os} {laid : List (String × DataW Unit)} (args : Array Value)
    (hf : (laidWorld os).layFits Tryd.prog (dataOf laid) [] = true)
    (hi : (laidWorld os).layIfaces Tryd.prog (dataOf laid) (bothWorld os laid) = true)
    (hh : (laid.filter fun x => x.2.handleName?.isSome).all (handleAtB Tryd.prog (((bothWorld os laid).forCall (fun _ _ => 0) ⟨#[], args, []⟩).memory)) = true) :
    laidMetH Tryd.prog laid ((bothWorld os laid).forCall (fun _ _ => 0) ⟨#[], args, []⟩).memory := by
  refine laidMetH_of_parts ?_ hh
  show laidMet Tryd.prog (dataOf laid) _
  generalize hD : dataOf laid = D at *
  have e1 : (D.filter fun x => (D.map (·.1)).contains x.1) = D := List.filter_eq_self.2 fun x hx => List.contains_iff_mem.2 (List.mem_map.2 ⟨x, hx, rfl⟩)
  have e2 : (D.filter fun x => !(D.map (·.1)).contains x.1) = [] := List.filter_eq_nil_iff.2 fun x hx => by rw [List.contains_iff_mem.2 (List.mem_map.2 ⟨x, hx, rfl⟩)]; simp
  have hb : bothWorld os laid = (laidWorld os).layVars Tryd.prog D := by unfold bothWorld; rw [hD]
  rw [hb] at hi ⊢
  have h : laidMet Tryd.prog D ((laidWorld os).layVars Tryd.prog D) := laidMet_layVars (w0 := laidWorld os) (D.map (·.1)) [] (by rw [e1]) (by rw [e1]; exact hf) (by rw [e1]; exact hi) (by rw [e2]; exact LaidIn.none)
  exact h.of_heap (by simp [World.memory, World.forCall, Input.heap])
end Go.Proofs.YtbofobakphlpbaaDoor.Frame
