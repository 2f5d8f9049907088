/-
  An argument of type []string, opened. No conditions.
-/
import Derived.Test.YtiiaoagobjgkiaaGreatDoorNum
import Derived.Test.YtiiaoagobjgkiaaGreatDoorRead
import Derived.Test.YtiiaoagobjgkiaaGreatDoorFrame
import Derived.Test.YtiiaoagobjgkiaaGreatDoorBare
import Derived.Test.YtiiaoagobjgkiaaGreatDoorCards
import Derived.Test.YtiiaoagobjgkiaaGreatDoorTie
import Derived.Deep.DeepHandedRow
import Derived.LaidLaws
import Derived.LaidHandle
import Derived.Lib.LaidTab
import Derived.Lay
import Derived.LaidOnce
import Derived.SevenTiedAt
import Derived.Stop.Joined
namespace Go.Proofs.YtiiaoagobjgkiaaGreatDoor
open Go.ChangeShapes Go.WideShapes Go.ChangeAt Go.RowKit Go.ChangeMaps

theorem tcells_string : Tryz.prog.cellsOf 9 = 1 := by kernel_rfl
theorem tbytes_string : Tryz.prog.bytesOf 9 = 16 := by kernel_rfl
/-- The slice value v holds n texts. -/
def IsTxs (w : World) (v : Value) (n : Nat) (T : Nat → ByteArray) : Prop :=
  ∃ (oa : Option Addr) (cap : Nat), v = .slice oa n cap ∧ n ≤ 8796093022200 ∧ ∀ k, k < n → (T k).size ≤ 140737488351232 ∧ ∃ b off, oa = some ⟨b, off, none⟩ ∧ w.cell? ⟨b, off + k, none⟩ = some (.string (T k))
theorem tadd_plain (b off i : Nat) : (⟨b, off, none⟩ : Addr).add i = ⟨b, off + i, none⟩ := by
  unfold Addr.add
  split <;> simp_all
set_option maxRecDepth 100000 in
theorem arg_txs {H : Type} {enc : TypeId × Value → H} {W : World} {base : Nat} {v : Value} {d : DataW H} {p : List MemPlace} {ts : List TypeId} {ds : List (DataW H)} {j : Nat}
    (hv : Value.okWide Tryz.prog W .any base 22 v) (h : DataW.Trod enc Tryz.prog W 0 (fun _ => true) true 22 v d p)
    (hsz : (DataW.weightsEach Tryz.prog ts ds).all (· ≤ reachBytes) = true) (ht : ts[j]? = some 22) (hd : ds[j]? = some d) :
    ∃ (n : Nat) (T : Nat → ByteArray), IsTxs W v n T := by
  obtain ⟨a, len, cap, rfl⟩ := okWide_slice Tryz.underlying22 hv
  rcases (Rd.ofArg h hsz ht hd).slice Tryz.underlying22 with h0 | ⟨x, l, c, hcs, hlc, hc, hb, hi⟩
  · simp [Value.cells] at h0
    obtain ⟨rfl, rfl, rfl⟩ := h0
    exact ⟨0, fun _ => ⟨#[]⟩, _, _, rfl, by omega, fun k hk => absurd hk (Nat.not_lt_zero _)⟩
  · simp [Value.cells] at hcs
    obtain ⟨rfl, rfl, rfl⟩ := hcs
    rw [tcells_string] at hi
    rw [tbytes_string] at hb
    have hq : ∀ i : Nat, ∃ q : ByteArray, i < len → q.size ≤ 140737488351232 ∧ W.cell? (x.add i) = some (.string q) := fun i => by
      by_cases hil : i < len
      · obtain ⟨ecs, _, hat, hr⟩ := hi i hil
        obtain ⟨s, rfl, b0⟩ := hr.string Tryz.underlying9
        exact ⟨s, fun _ => ⟨b0, by simpa using hat 0 (by omega)⟩⟩
      · exact ⟨⟨#[]⟩, fun h => absurd h hil⟩
    obtain ⟨f, hf⟩ := Classical.axiomOfChoice hq
    obtain ⟨b, off, spot⟩ := x
    refine ⟨len, f, _, _, rfl, by omega, fun k hk => ⟨(hf k hk).1, ?_⟩⟩
    have hspot : spot = none := by
      have h0 := (hf 0 (by omega)).2
      simpa [Addr.add] using World.cell?_spot h0
    subst hspot
    exact ⟨b, off, rfl, by have := (hf k hk).2; rw [tadd_plain] at this; exact this⟩
end Go.Proofs.YtiiaoagobjgkiaaGreatDoor
/-
  The frame of a law of a door seat, whose row lists the variable errors.errorType: as Frame, with the variable's content as a hypothesis.
-/
namespace Go.Proofs.YtiiaoagobjgkiaaGreatDoor.Frame
open Go.ChangeShapes Go.WideShapes Go.ChangeAt Go.RowKit
open Go.ChangeMaps (open_string shut_string)

def WalksD (laid : List (String × DataW Unit)) (n : FuncId) (F : Func) : Prop :=
  ∀ (H : Type) (enc : TypeId × Value → H) (W : World) (base : Nat) (args : Array Value) (ds : List (DataW H)) (p : List MemPlace),
    laidMetH Tryz.prog laid W →
    (∀ (j : Nat) t v, F.params[j]? = some t → args[j]? = some v → Value.okWide Tryz.prog W .any base t v) →
    DataW.TrodAll enc Tryz.prog W 0 (fun _ => true) true F.params.toList args.toList ds p →
    (DataW.weightsEach Tryz.prog F.params.toList ds).all (· ≤ reachBytes) = true →
    Calls Tryz.prog n args W fun e W' => e = .returned (.bool true) ∧ Below W.heap.size W W'

set_option maxRecDepth 100000 in
theorem liftedD {n : FuncId} {F : Func} {s : ChangeSpec} {laid : List (String × DataW Unit)} {conds : List PathCond} (hF : Tryz.prog.funcs[n]? = some F) (hn : Tryz.prog.inits.idxOf? n = none) (hs : Plain s F)
    (hres : F.resultTypes = #[4]) (hread : ∀ t ∈ F.params.toList, Tryz.prog.readableRec t = true ∧ t < Tryz.prog.types.size) (hw : WalksD laid n F)
    (os : Os) (started : os.Started) (H : Type) (enc : TypeId × Value → H) (Fi : Stop.Interp)
    (witness : ∃ (w : World) (tape : Tape) (i : Input), w.os = os ∧ (w.forCall tape i).Shaped Tryz.checked.prog ∧ i.vars = [] ∧ Input.okWide Tryz.checked.prog (w.forCall tape i) .any w.heap.size n i ∧
      (OpenSpec.ofChange s).preRow enc Tryz.checked.prog F conds false laid (w.forCall tape i).memory i.args ∧ ({} : Assume).holds Tryz.checked.prog (lone (Frame.enter Tryz.checked.prog n i.args .normal) [] (w.forCall tape i))) :
    ReturnsInHanded {} Tryz.checked os n .any ((OpenSpec.ofChange s).preRow enc Tryz.prog F conds false laid) (((OpenSpec.ofChange s).at Fi).post enc Tryz.prog F false true false false) := by
  refine returnsInHanded_of_row (C := Tryz.checked) (s := OpenSpec.ofChange s) own started hn hF witness ?_
  intro W base args ds gs before hval hW _ _ hsz hL _ _
  have hW' : DataW.Whole enc Tryz.prog F.params.toList s.vars false W args.toList ds gs before := hW
  obtain ⟨p, q, hA, hV, rfl, hfz, hnd⟩ := hW
  obtain ⟨hvars, hfn⟩ := hs
  have hV' : DataW.TrodVars enc Tryz.prog W (fun _ => true) s.vars gs q := hV
  rw [hvars] at hV'
  obtain ⟨rfl, rfl⟩ : gs = [] ∧ q = [] := by
    cases gs with
    | nil => exact ⟨rfl, hV'⟩
    | cons _ _ => exact hV'.elim
  have hlen := trodAll_length hA
  have hlt := trodAll_lt hA
  have hsz' : (DataW.weightsEach Tryz.prog F.params.toList ds).all (· ≤ reachBytes) = true := by
    have e : (OpenSpec.ofChange s).bare.plain.varTypes Tryz.prog = [] := by simp [OpenSpec.ofChange, OpenSpec.bare, ChangeSpec.plain, DataSpec.varTypes, hvars]
    have := hsz
    rw [show (OpenSpec.ofChange s).bare.plain.varTypes Tryz.checked.prog = [] from e, List.append_nil, List.append_nil] at this
    exact this
  refine (hw H enc W base args ds p hL hval hA hsz').mono fun e W' ⟨he, hb⟩ => ?_
  subst he
  have hf := hfn H ds hlen
  show ∃ v, _ ∧ s.post enc Tryz.prog F false true false false W args v W'
  refine ⟨_, rfl, ds, [], _, [], p, [], hW', ?_, ?_, ?_, hb.frame _, fun h => by cases h⟩
  · rw [hf, hres]
    exact trodAll_mk1 (shut_bool under_bool _)
  · rw [hf]
    exact trodAll_below laidOut hb hread hA hlt
  · rw [hf, hvars]
    rfl

/-! ### The laid variable errors.errorType -/
theorem et : Tryz.prog.globalNamed "errors.errorType" = some 0 := by kernel_rfl
theorem rt : (Tryz.prog.cutTypes.find? (·.1 == "internal/reflectlite.rtype")).map (·.2) = some 213 := by kernel_rfl
theorem oneRow : ((List.range 297).filter fun t => Tryz.prog.rowNamed t [101, 114, 114, 111, 114]) = [29] := by kernel_rfl
theorem typesSize : Tryz.prog.types.size = 297 := by kernel_rfl
theorem handle_of_laid {W : World} (h : laidMetH Tryz.prog [("errors.errorType", Rows.laid_errors_errorType)] W) : HasHandle W := by
  have h' : laidMet Tryz.prog [] W ∧ handlesMet Tryz.prog [("errors.errorType", Rows.laid_errors_errorType)] W := h
  obtain ⟨name, u, ty, e1, e2, e3, e4, e5⟩ := h'.2 _ (List.mem_singleton.2 rfl)
  have en : name = [101, 114, 114, 111, 114] := (Option.some.inj e1).symm
  subst en
  obtain rfl := Option.some.inj (rt.symm.trans e2)
  have hm : ty ∈ (List.range 297).filter fun t => Tryz.prog.rowNamed t [101, 114, 114, 111, 114] := List.mem_filter.2 ⟨List.mem_range.2 (by rw [← typesSize]; exact e3), e4⟩
  rw [oneRow] at hm
  obtain rfl := List.mem_singleton.1 hm
  have hh : typeHandle Tryz.prog 29 = .pointer (some ⟨4, 29, none⟩) := by kernel_rfl
  rw [hh] at e5
  unfold HasHandle
  simpa using World.var?_cell et e5 0

noncomputable def laidWorld (os : Os) : World :=
  let w0 := World.holding Tryz.prog os ⟨#[], #[], []⟩
  { w0 with heap := w0.heap.modify 0 fun
      | .cells _ t frozen => .cells #[.iface 213 (.agg #[.pointer (some ⟨4, 29, none⟩)])] t frozen
      | o => o }
theorem laidWorld_met (os : Os) (args : Array Value) : laidMetH Tryz.prog [("errors.errorType", Rows.laid_errors_errorType)] ((laidWorld os).forCall (fun _ _ => 0) ⟨#[], args, []⟩).memory :=
  laidMetH_of_parts (laidMet_nil _ _) (by kernel_rfl)
end Go.Proofs.YtiiaoagobjgkiaaGreatDoor.Frame
/-
  The frame of a law of a door seat, whose row lists variables of the library: as Frame; the variables' content and the world's shape are hypotheses of the walk.
-/
namespace Go.Proofs.YtiiaoagobjgkiaaGreatDoor.Frame
open Go.ChangeShapes Go.WideShapes Go.ChangeAt Go.RowKit
open Go.ChangeMaps (open_string shut_string)

def WalksP (laid : List (String × DataW Unit)) (n : FuncId) (F : Func) : Prop :=
  ∀ (H : Type) (enc : TypeId × Value → H) (W : World) (base : Nat) (args : Array Value) (ds : List (DataW H)) (p : List MemPlace),
    laidMetH Tryz.prog laid W →
    W.ShapedOpen Tryz.prog →
    (∀ (j : Nat) t v, F.params[j]? = some t → args[j]? = some v → Value.okWide Tryz.prog W .any base t v) →
    DataW.TrodAll enc Tryz.prog W 0 (fun _ => true) true F.params.toList args.toList ds p →
    (DataW.weightsEach Tryz.prog F.params.toList ds).all (· ≤ reachBytes) = true →
    Calls Tryz.prog n args W fun e W' => e = .returned (.bool true) ∧ Below W.heap.size W W'

set_option maxRecDepth 100000 in
theorem liftedP {n : FuncId} {F : Func} {s : ChangeSpec} {laid : List (String × DataW Unit)} {conds : List PathCond} (hF : Tryz.prog.funcs[n]? = some F) (hn : Tryz.prog.inits.idxOf? n = none) (hs : Plain s F)
    (hres : F.resultTypes = #[4]) (hread : ∀ t ∈ F.params.toList, Tryz.prog.readableRec t = true ∧ t < Tryz.prog.types.size) (hw : WalksP laid n F)
    (os : Os) (started : os.Started) (H : Type) (enc : TypeId × Value → H) (Fi : Stop.Interp)
    (witness : ∃ (w : World) (tape : Tape) (i : Input), w.os = os ∧ (w.forCall tape i).Shaped Tryz.checked.prog ∧ i.vars = [] ∧ Input.okWide Tryz.checked.prog (w.forCall tape i) .any w.heap.size n i ∧
      (OpenSpec.ofChange s).preRow enc Tryz.checked.prog F conds false laid (w.forCall tape i).memory i.args ∧ ({} : Assume).holds Tryz.checked.prog (lone (Frame.enter Tryz.checked.prog n i.args .normal) [] (w.forCall tape i))) :
    ReturnsInHanded {} Tryz.checked os n .any ((OpenSpec.ofChange s).preRow enc Tryz.prog F conds false laid) (((OpenSpec.ofChange s).at Fi).post enc Tryz.prog F false true false false) := by
  refine returnsInHanded_of_row (C := Tryz.checked) (s := OpenSpec.ofChange s) own started hn hF witness ?_
  intro W base args ds gs before hval hW _ _ hsz hL hSh _
  have hW' : DataW.Whole enc Tryz.prog F.params.toList s.vars false W args.toList ds gs before := hW
  obtain ⟨p, q, hA, hV, rfl, hfz, hnd⟩ := hW
  obtain ⟨hvars, hfn⟩ := hs
  have hV' : DataW.TrodVars enc Tryz.prog W (fun _ => true) s.vars gs q := hV
  rw [hvars] at hV'
  obtain ⟨rfl, rfl⟩ : gs = [] ∧ q = [] := by
    cases gs with
    | nil => exact ⟨rfl, hV'⟩
    | cons _ _ => exact hV'.elim
  have hlen := trodAll_length hA
  have hlt := trodAll_lt hA
  have hsz' : (DataW.weightsEach Tryz.prog F.params.toList ds).all (· ≤ reachBytes) = true := by
    have e : (OpenSpec.ofChange s).bare.plain.varTypes Tryz.prog = [] := by simp [OpenSpec.ofChange, OpenSpec.bare, ChangeSpec.plain, DataSpec.varTypes, hvars]
    have := hsz
    rw [show (OpenSpec.ofChange s).bare.plain.varTypes Tryz.checked.prog = [] from e, List.append_nil, List.append_nil] at this
    exact this
  refine (hw H enc W base args ds p hL hSh hval hA hsz').mono fun e W' ⟨he, hb⟩ => ?_
  subst he
  have hf := hfn H ds hlen
  show ∃ v, _ ∧ s.post enc Tryz.prog F false true false false W args v W'
  refine ⟨_, rfl, ds, [], _, [], p, [], hW', ?_, ?_, ?_, hb.frame _, fun h => by cases h⟩
  · rw [hf, hres]
    exact trodAll_mk1 (shut_bool under_bool _)
  · rw [hf]
    exact trodAll_below laidOut hb hread hA hlt
  · rw [hf, hvars]
    rfl

/-- The world in which the listed data lie. -/
noncomputable def dataWorld (os : Os) (laid : List (String × DataW Unit)) : World := World.laidAll Tryz.prog os laid
theorem dataWorld_met {os : Os} {laid : List (String × DataW Unit)} (hp : (laid.filter fun x => x.2.handleName?.isSome) = []) (args : Array Value)
    (hf : (World.holding Tryz.prog os ⟨#[], #[], []⟩).layFits Tryz.prog laid [] = true)
    (hi : (World.holding Tryz.prog os ⟨#[], #[], []⟩).layIfaces Tryz.prog laid (World.laidAll Tryz.prog os laid) = true) :
    laidMetH Tryz.prog laid ((dataWorld os laid).forCall (fun _ _ => 0) ⟨#[], args, []⟩).memory := by
  unfold laidMetH
  rw [hp]
  exact laidMet_laidAll args hf hi
end Go.Proofs.YtiiaoagobjgkiaaGreatDoor.Frame
/-
  The frame of a law of a door seat, whose row lists errors.errorType and tables of the library, both.
-/
namespace Go.Proofs.YtiiaoagobjgkiaaGreatDoor.Frame
open Go.ChangeShapes Go.WideShapes Go.ChangeAt Go.RowKit

/-- The listed variables that are data. -/
def dataOf (laid : List (String × DataW Unit)) : List (String × DataW Unit) := laid.filter fun x => x.2.handleName?.isNone
theorem handle_of_laidB {laid : List (String × DataW Unit)} {W : World} (hf : (laid.filter fun x => x.2.handleName?.isSome) = [("errors.errorType", Rows.laid_errors_errorType)]) (h : laidMetH Tryz.prog laid W) : HasHandle W := by
  unfold laidMetH at h
  rw [hf] at h
  refine handle_of_laid (W := W) ?_
  exact (show laidMet Tryz.prog [] W ∧ handlesMet Tryz.prog [("errors.errorType", Rows.laid_errors_errorType)] W from ⟨⟨[], rfl, List.nodup_nil, fun _ _ h => by cases h⟩, h.2⟩)
theorem data_of_laidB {laid : List (String × DataW Unit)} {W : World} (hf : (laid.filter fun x => x.2.handleName?.isSome) = [("errors.errorType", Rows.laid_errors_errorType)]) (h : laidMetH Tryz.prog laid W) : laidMet Tryz.prog (dataOf laid) W := by
  unfold laidMetH at h
  rw [hf] at h
  exact h.1

/-- The world in which the listed variables lie. -/
noncomputable def bothWorld (os : Os) (laid : List (String × DataW Unit)) : World := (laidWorld os).layVars Tryz.prog (dataOf laid)
theorem bothWorld_met {os : Os} {laid : List (String × DataW Unit)} (args : Array Value)
    (hf : (laidWorld os).layFits Tryz.prog (dataOf laid) [] = true)
    (hi : (laidWorld os).layIfaces Tryz.prog (dataOf laid) (bothWorld os laid) = true)
    (hh : (laid.filter fun x => x.2.handleName?.isSome).all (handleAtB Tryz.prog (((bothWorld os laid).forCall (fun _ _ => 0) ⟨#[], args, []⟩).memory)) = true) :
    laidMetH Tryz.prog laid ((bothWorld os laid).forCall (fun _ _ => 0) ⟨#[], args, []⟩).memory := by
  refine laidMetH_of_parts ?_ hh
  show laidMet Tryz.prog (dataOf laid) _
  generalize hD : dataOf laid = D at *
  have e1 : (D.filter fun x => (D.map (·.1)).contains x.1) = D := List.filter_eq_self.2 fun x hx => List.contains_iff_mem.2 (List.mem_map.2 ⟨x, hx, rfl⟩)
  have e2 : (D.filter fun x => !(D.map (·.1)).contains x.1) = [] := List.filter_eq_nil_iff.2 fun x hx => by rw [List.contains_iff_mem.2 (List.mem_map.2 ⟨x, hx, rfl⟩)]; simp
  have hb : bothWorld os laid = (laidWorld os).layVars Tryz.prog D := by unfold bothWorld; rw [hD]
  rw [hb] at hi ⊢
  have h : laidMet Tryz.prog D ((laidWorld os).layVars Tryz.prog D) := laidMet_layVars (w0 := laidWorld os) (D.map (·.1)) [] (by rw [e1]) (by rw [e1]; exact hf) (by rw [e1]; exact hi) (by rw [e2]; exact LaidIn.none)
  exact h.of_heap (by simp [World.memory, World.forCall, Input.heap])
end Go.Proofs.YtiiaoagobjgkiaaGreatDoor.Frame
/-
  The witness of a row that lists a slice of the library: the world's shape in one pass.
-/
namespace Go.Proofs.YtiiaoagobjgkiaaGreatDoor.Frame
open Go.ChangeShapes Go.WideShapes Go.ChangeAt Go.RowKit
variable {H : Type} {enc : TypeId × Value → H}

theorem witness_zip {C : Checked} {os : Os} {f : FuncId} {fn : Func} {s : OpenSpec} {conds : List PathCond} {apart : Bool} {laid : List (String × DataW Unit)} (modest : Bool) (w0 : World) (args : Array Value) (hos : w0.os = os)
    (hv : (w0.forCall (fun _ _ => 0) ⟨#[], args, []⟩).variablesZipB C.prog = true)
    (hr : ((w0.forCall (fun _ _ => 0) ⟨#[], args, []⟩).heap.toList.drop C.prog.globals.size).take ((begin C.prog (fun _ _ => 0) default).world.heap.size - C.prog.globals.size) =
      (begin C.prog (fun _ _ => 0) default).world.heap.toList.drop C.prog.globals.size)
    (hok : Input.okWideB C.prog (w0.forCall (fun _ _ => 0) ⟨#[], args, []⟩) f ⟨#[], args, []⟩ = true)
    (hrow : s.preRow enc C.prog fn conds apart laid (w0.forCall (fun _ _ => 0) ⟨#[], args, []⟩).memory args) :
    ∃ (w : World) (tape : Tape) (i : Input), w.os = os ∧ (w.forCall tape i).Shaped C.prog ∧ i.vars = [] ∧ Input.okWide C.prog (w.forCall tape i) .any w.heap.size f i ∧
      s.preRow enc C.prog fn conds apart laid (w.forCall tape i).memory i.args ∧ ({ modest := modest } : Assume).holds C.prog (lone (Frame.enter C.prog f i.args .normal) [] (w.forCall tape i)) :=
  ⟨w0, fun _ _ => 0, ⟨#[], args, []⟩, hos, World.shaped_of_ZipB hv hr, (Input.okWide_of_okWideB (base := 0) hok).1, (Input.okWide_of_okWideB hok).2, hrow, by
    simp only [Assume.holds]
    exact ⟨by simp, by simp, fun _ => Modest.zero, by simp, by simp⟩⟩
end Go.Proofs.YtiiaoagobjgkiaaGreatDoor.Frame
/-
  The closed facts of VolumeJoins's row, one by one. No conditions.
-/
namespace Go.Proofs.YtiiaoagobjgkiaaGreatDoor.volumeJoins
open Go.ChangeShapes Go.WideShapes Go.ChangeAt Go.RowKit

theorem and2 {a b : Bool} (h : a = true) (k : b = true) : (a && b) = true := by rw [h, k]; rfl
set_option maxRecDepth 100000 in
theorem fact0 : (Rows.volumeJoinsRow.wf (OpenSpec.ofChange (OpenSpec.ofChange Rows.volumeJoinsSpec).bare)) = true := by kernel_rfl
set_option maxRecDepth 100000 in
theorem fact1 : (laidOutB Tryz.pinned.checked.prog) = true := by kernel_rfl
set_option maxRecDepth 100000 in
theorem fact2 : (mapsRowed Tryz.pinned.checked.prog) = true := by kernel_rfl
set_option maxRecDepth 100000 in
theorem fact3 : (Tryz.f3.params.all (Tryz.pinned.checked.prog.readableRec ·)) = true := by kernel_rfl
set_option maxRecDepth 100000 in
theorem fact4 : (namedTie Tryz.pinned.checked.prog Rows.volumeJoinsRow.named (OpenSpec.ofChange Rows.volumeJoinsSpec).bare.vars) = true := by kernel_rfl
set_option maxRecDepth 100000 in
theorem fact5 : (Rows.volumeJoinsRow.stops == []) = true := by kernel_rfl
set_option maxRecDepth 100000 in
theorem fact6 : (Tryz.pinned.checked.prog.stops == []) = true := by kernel_rfl
set_option maxRecDepth 100000 in
theorem fact7 : (Rows.volumeJoinsRow.knobs == []) = true := by kernel_rfl
set_option maxRecDepth 100000 in
theorem fact8 : (Tryz.pinned.checked.prog.stopKnobs == []) = true := by kernel_rfl
set_option maxRecDepth 100000 in
theorem fact9 : (Rows.volumeJoinsRow.inPlace == Tryz.pinned.checked.prog.inPlace 3) = true := by kernel_rfl
set_option maxRecDepth 100000 in
theorem fact10 : (Rows.volumeJoinsRow.unfollowed == Tryz.pinned.checked.prog.unfollowed 3) = true := by kernel_rfl
set_option maxRecDepth 100000 in
theorem fact11 : (Rows.volumeJoinsRow.recurses == Tryz.pinned.checked.prog.recurses 3) = true := by kernel_rfl
set_option maxRecDepth 100000 in
theorem fact12 : (Rows.volumeJoinsRow.named == Tryz.pinned.checked.prog.varsNamed 3) = true := by kernel_rfl
set_option maxRecDepth 100000 in
theorem fact13 : (Rows.volumeJoinsRow.maps == (Tryz.f3.params.toList ++ (OpenSpec.ofChange Rows.volumeJoinsSpec).bare.plain.varTypes Tryz.pinned.checked.prog).any (Tryz.pinned.checked.prog.mapsRec ·)) = true := by kernel_rfl
set_option maxRecDepth 100000 in
theorem fact14 : (Rows.volumeJoinsRow.ifaces == (Tryz.f3.params.toList ++ (OpenSpec.ofChange Rows.volumeJoinsSpec).bare.plain.varTypes Tryz.pinned.checked.prog).any (Tryz.pinned.checked.prog.ifacesRec ·)) = true := by kernel_rfl
set_option maxRecDepth 100000 in
theorem fact15 : (Rows.volumeJoinsRow.mapsOut == Tryz.pinned.checked.prog.mapsAmong Tryz.f3.resultTypes.toList) = true := by kernel_rfl
set_option maxRecDepth 100000 in
theorem fact16 : (Rows.volumeJoinsRow.loops == (Tryz.f3.params.toList ++ (OpenSpec.ofChange Rows.volumeJoinsSpec).bare.plain.varTypes Tryz.pinned.checked.prog).any (Tryz.pinned.checked.prog.loopsFrom ·)) = true := by kernel_rfl
set_option maxRecDepth 100000 in
theorem fact17 : (Rows.volumeJoinsRow.wideKeys == (Tryz.f3.params.toList ++ (OpenSpec.ofChange Rows.volumeJoinsSpec).bare.plain.varTypes Tryz.pinned.checked.prog ++ Tryz.f3.resultTypes.toList).any (Tryz.pinned.checked.prog.wideKeysFrom ·)) = true := by kernel_rfl
set_option maxRecDepth 100000 in
theorem fact18 : ((OpenSpec.ofChange Rows.volumeJoinsSpec).bare.vars.all (Tryz.pinned.checked.prog.varReadable ·)) = true := by kernel_rfl
set_option maxRecDepth 100000 in
theorem fact19 : (Tryz.f3.resultTypes.all (fun t => Tryz.pinned.checked.prog.readableRec t && decide (t < Tryz.pinned.checked.prog.types.size))) = true := by kernel_rfl
set_option maxRecDepth 100000 in
theorem fact20 : (Rows.volumeJoinsRow.ifacesOut == Tryz.f3.resultTypes.toList.any (Tryz.pinned.checked.prog.ifacesRec ·)) = true := by kernel_rfl
set_option maxRecDepth 100000 in
theorem fact21 : (Rows.volumeJoinsRow.loopsOut == Tryz.f3.resultTypes.toList.any (Tryz.pinned.checked.prog.loopsFrom ·)) = true := by kernel_rfl
set_option maxRecDepth 100000 in
theorem fact22 : (Rows.volumeJoinsRow.plainKeys == Tryz.pinned.checked.prog.plainKeys) = true := by kernel_rfl
set_option maxRecDepth 100000 in
theorem fact23 : (Rows.volumeJoinsRow.shortTexts.isNone) = true := by kernel_rfl
set_option maxRecDepth 100000 in
theorem fact24 : (Tryz.pinned.checked.prog.stopsHeard) = true := by kernel_rfl
set_option maxRecDepth 100000 in
theorem fact25 : (Tryz.pinned.checked.prog.mayEnter) = true := by kernel_rfl
set_option maxRecDepth 100000 in
theorem fact26 : (Rows.volumeJoinsRow.lifted == Tryz.pinned.checked.prog.liftsFinal) = true := by kernel_rfl
set_option maxRecDepth 100000 in
theorem fact27 : (Tryz.pinned.checked.prog.make == some Rows.volumeJoinsRow.make) = true := by kernel_rfl
set_option maxRecDepth 100000 in
theorem fact28 : (Rows.volumeJoinsRow.kinds == (if Rows.volumeJoinsRow.domain.isEmpty then [] else Tryz.f3.params.toList.map fun t => match Tryz.pinned.checked.prog.underlying t with | some (.int k) => some k | _ => none)) = true := by kernel_rfl
set_option maxRecDepth 100000 in
theorem fact29 : (Rows.volumeJoinsRow.pinned == Rows.volumeJoinsRow.pinnedBy) = true := by kernel_rfl
set_option maxRecDepth 100000 in
theorem fact30 : (Rows.volumeJoinsRow.veiled == (Tryz.f3.params.toList ++ (OpenSpec.ofChange Rows.volumeJoinsSpec).bare.plain.varTypes Tryz.pinned.checked.prog ++ Tryz.f3.resultTypes.toList).any (Tryz.pinned.checked.prog.veiledRec ·)) = true := by kernel_rfl
set_option maxRecDepth 100000 in
theorem fact31 : (Rows.volumeJoinsRow.veiledFits Tryz.pinned.checked.prog Tryz.f3.params.toList (Tryz.f3.params.toList ++ (OpenSpec.ofChange Rows.volumeJoinsSpec).bare.plain.varTypes Tryz.pinned.checked.prog ++ Tryz.f3.resultTypes.toList)) = true := by kernel_rfl
set_option maxRecDepth 100000 in
theorem joined : joinedFacts Tryz.pinned.checked.prog 3 Tryz.f3 (OpenSpec.ofChange Rows.volumeJoinsSpec).bare Rows.volumeJoinsRow = true := (and2 (and2 (and2 (and2 (and2 (and2 (and2 (and2 (and2 (and2 (and2 (and2 (and2 (and2 (and2 (and2 (and2 (and2 (and2 (and2 (and2 (and2 (and2 (and2 (and2 (and2 (and2 (and2 (and2 (and2 (and2 fact0 fact1) fact2) fact3) fact4) fact5) fact6) fact7) fact8) fact9) fact10) fact11) fact12) fact13) fact14) fact15) fact16) fact17) fact18) fact19) fact20) fact21) fact22) fact23) fact24) fact25) fact26) fact27) fact28) fact29) fact30) fact31)
end Go.Proofs.YtiiaoagobjgkiaaGreatDoor.volumeJoins
