/-
  The frame of a law of a door seat, whose row lists variables of the library: as Frame; the variables' content and the world's shape are hypotheses of the walk.
-/
import Derived.Test.YtbofobakphlpbaaDoorFrame
import Derived.Test.YtbofobakphlpbaaDoorCards
import Derived.Test.YtbofobakphlpbaaDoorTie
import Derived.Deep.DeepHandedRow
import Derived.LaidLaws
import Derived.LaidHandle
import Derived.Lay
import Derived.LaidOnce
import Derived.SevenTiedAt
import Derived.Lib.LaidTab
namespace Go.Proofs.YtbofobakphlpbaaDoor.Frame
open Go.ChangeShapes Go.WideShapes Go.ChangeAt Go.RowKit
open Go.ChangeMaps (open_string shut_string)

def WalksP (laid : List (String × DataW Unit)) (n : FuncId) (F : Func) : Prop :=
  ∀ (H : Type) (enc : TypeId × Value → H) (W : World) (base : Nat) (args : Array Value) (ds : List (DataW H)) (p : List MemPlace),
    laidMetH Tryd.prog laid W →
    W.ShapedOpen Tryd.prog →
    (∀ (j : Nat) t v, F.params[j]? = some t → args[j]? = some v → Value.okWide Tryd.prog W .any base t v) →
    DataW.TrodAll enc Tryd.prog W 0 (fun _ => true) true F.params.toList args.toList ds p →
    (DataW.weightsEach Tryd.prog F.params.toList ds).all (· ≤ reachBytes) = true →
    Calls Tryd.prog n args W fun e W' => e = .returned (.bool true) ∧ Below W.heap.size W W'

set_option maxRecDepth 100000 in
theorem liftedP {n : FuncId} {F : Func} {s : ChangeSpec} {laid : List (String × DataW Unit)} {conds : List PathCond} (hF : Tryd.prog.funcs[n]? = some F) (hn : Tryd.prog.inits.idxOf? n = none) (hs : Plain s F)
    (hres : F.resultTypes = #[4]) (hread : ∀ t ∈ F.params.toList, Tryd.prog.readableRec t = true ∧ t < Tryd.prog.types.size) (hw : WalksP laid n F)
    (os : Os) (started : os.Started) (H : Type) (enc : TypeId × Value → H) (Fi : Stop.Interp)
    (witness : ∃ (w : World) (tape : Tape) (i : Input), w.os = os ∧ (w.forCall tape i).Shaped Tryd.checked.prog ∧ i.vars = [] ∧ Input.okWide Tryd.checked.prog (w.forCall tape i) .any w.heap.size n i ∧
      (OpenSpec.ofChange s).preRow enc Tryd.checked.prog F conds false laid (w.forCall tape i).memory i.args ∧ ({} : Assume).holds Tryd.checked.prog (lone (Frame.enter Tryd.checked.prog n i.args .normal) [] (w.forCall tape i))) :
    ReturnsInHanded {} Tryd.checked os n .any ((OpenSpec.ofChange s).preRow enc Tryd.prog F conds false laid) (((OpenSpec.ofChange s).at Fi).post enc Tryd.prog F false true false false) := by
  refine returnsInHanded_of_row (C := Tryd.checked) (s := OpenSpec.ofChange s) own started hn hF witness ?_
  intro W base args ds gs before hval hW _ _ hsz hL hSh _
  have hW' : DataW.Whole enc Tryd.prog F.params.toList s.vars false W args.toList ds gs before := hW
  obtain ⟨p, q, hA, hV, rfl, hfz, hnd⟩ := hW
  obtain ⟨hvars, hfn⟩ := hs
  have hV' : DataW.TrodVars enc Tryd.prog W (fun _ => true) s.vars gs q := hV
  rw [hvars] at hV'
  obtain ⟨rfl, rfl⟩ : gs = [] ∧ q = [] := by
    cases gs with
    | nil => exact ⟨rfl, hV'⟩
    | cons _ _ => exact hV'.elim
  have hlen := trodAll_length hA
  have hlt := trodAll_lt hA
  have hsz' : (DataW.weightsEach Tryd.prog F.params.toList ds).all (· ≤ reachBytes) = true := by
    have e : (OpenSpec.ofChange s).bare.plain.varTypes Tryd.prog = [] := by simp [OpenSpec.ofChange, OpenSpec.bare, ChangeSpec.plain, DataSpec.varTypes, hvars]
    have := hsz
    rw [show (OpenSpec.ofChange s).bare.plain.varTypes Tryd.checked.prog = [] from e, List.append_nil, List.append_nil] at this
    exact this
  refine (hw H enc W base args ds p hL hSh hval hA hsz').mono fun e W' ⟨he, hb⟩ => ?_
  subst he
  have hf := hfn H ds hlen
  show ∃ v, _ ∧ s.post enc Tryd.prog F false true false false W args v W'
  refine ⟨_, rfl, ds, [], _, [], p, [], hW', ?_, ?_, ?_, hb.frame _, fun h => by cases h⟩
  · rw [hf, hres]
    exact trodAll_mk1 (shut_bool under_bool _)
  · rw [hf]
    exact trodAll_below laidOut hb hread hA hlt
  · rw [hf, hvars]
    rfl

/-- The world in which the listed data lie. -/
noncomputable def dataWorld (os : Os) (laid : List (String × DataW Unit)) : World := World.laidAll Tryd.prog os laid
theorem dataWorld_met {os : Os} {laid : List (String × DataW Unit)} (hp : (laid.filter fun x => x.2.handleName?.isSome) = []) (args : Array Value)
    (hf : (World.holding Tryd.prog os ⟨#[], #[], []⟩).layFits Tryd.prog laid [] = true)
    (hi : (World.holding Tryd.prog os ⟨#[], #[], []⟩).layIfaces Tryd.prog laid (World.laidAll Tryd.prog os laid) = true) :
    laidMetH Tryd.prog laid ((dataWorld os laid).forCall (fun _ _ => 0) ⟨#[], args, []⟩).memory := by
  unfold laidMetH
  rw [hp]
  exact laidMet_laidAll args hf hi
end Go.Proofs.YtbofobakphlpbaaDoor.Frame
