/-
  Arguments of type api.Entry and []api.Entry, opened.
-/
import Derived.Test.YtnbcbipigiopbaaGreatDoorPkH
import Derived.Test.YtnbcbipigiopbaaGreatDoorPkA
import Derived.Test.YtnbcbipigiopbaaGreatDoorPkC
import Derived.Test.YtnbcbipigiopbaaGreatDoorCards
import Derived.Test.YtnbcbipigiopbaaGreatDoorTie
import Derived.Deep.DeepHandedRow
import Derived.LaidLaws
import Derived.LaidHandle
import Derived.Lib.LaidTab
import Derived.Lay
import Derived.LaidOnce
import Derived.SevenTiedAt
import Derived.Stop.Joined
namespace Go.Proofs.YtnbcbipigiopbaaGreatDoor
open Go.ChangeShapes Go.WideShapes Go.ChangeAt Go.RowKit Go.ChangeMaps

theorem ecells_entry : Tryz.prog.cellsOf 26 = 15 := by kernel_rfl
theorem ebytes_entry : 100 ≤ Tryz.prog.bytesOf 26 := of_decide_eq_true (by kernel_rfl)
theorem ecells_time : Tryz.prog.cellsOf 23 = 2 := by kernel_rfl
theorem ecells_string : Tryz.prog.cellsOf 9 = 1 := by kernel_rfl
theorem ecells_int : Tryz.prog.cellsOf 3 = 1 := by kernel_rfl
theorem ecells_u8 : Tryz.prog.cellsOf 5 = 1 := by kernel_rfl
theorem ecells_map : Tryz.prog.cellsOf 24 = 1 := by kernel_rfl

set_option maxRecDepth 100000 in
/-- A slice of pieces, read. -/
theorem rd_pieces {W : World} {cs : List Value} (h : Rd W 24 cs) : ∃ (a : Option Addr) (n c : Nat) (A S : Nat → Int), cs = [.slice a n c] ∧ n ≤ 8796093022200 ∧ IsPieces W (.slice a n c) n A S := by
  rcases h.slice Tryz.underlying24 with h0 | ⟨x, l, c, hcs, hlc, hc, hb, hi⟩
  · exact ⟨none, 0, 0, fun _ => 0, fun _ => 0, h0, by omega, .inl ⟨⟨_, _, rfl⟩, rfl⟩⟩
  · rw [cells_piece] at hi
    rw [bytes_piece] at hb
    have hq : ∀ i : Nat, ∃ q : Int × Int, i < l → W.cell? (x.add (i * 2)) = some (.int .i64 q.1) ∧ W.cell? (x.add (i * 2 + 1)) = some (.int .i64 q.2) := fun i => by
      by_cases hil : i < l
      · obtain ⟨ecs, _, hat, hr⟩ := hi i hil
        obtain ⟨a, s, rfl⟩ := rd_piece hr
        exact ⟨(a, s), fun _ => ⟨by simpa using hat 0 (by omega), by simpa using hat 1 (by omega)⟩⟩
      · exact ⟨(0, 0), fun h => absurd h hil⟩
    obtain ⟨f, hf⟩ := Classical.axiomOfChoice hq
    obtain ⟨b, off, spot⟩ := x
    by_cases hl0 : l = 0
    · subst hl0
      exact ⟨_, 0, c, fun _ => 0, fun _ => 0, hcs, by omega, .inl ⟨⟨_, _, rfl⟩, rfl⟩⟩
    · have hspot : spot = none := by simpa [Addr.add] using World.cell?_spot (hf 0 (by omega)).1
      subst hspot
      exact ⟨_, l, c, fun i => (f i).1, fun i => (f i).2, hcs, by omega, .inr ⟨b, off, c, rfl, by omega, fun k hk => by
        have := hf k hk
        rw [add_plain, add_plain, ← Nat.add_assoc] at this
        exact this⟩⟩

set_option maxRecDepth 100000 in
/-- A member's cells, read. -/
theorem rd_ent {W : World} {cs : List Value} (h : Rd W 26 cs) : ∃ (e : Ent) (A S : Nat → Int), cs = e.cells ∧ e.Ok ∧ IsPieces W (.slice e.pa e.pn e.pc) e.pn A S := by
  obtain ⟨hl, hg⟩ := h.struct Tryz.underlying26
  rw [ecells_entry] at hl
  match cs, hl with
  | [c0, c1, c2, c3, c4, c5, c6, c7, c8, c9, c10, c11, c12, c13, c14], _ =>
    have g0 := hg 0 _ rfl
    have g1 := hg 1 _ rfl
    have g2 := hg 2 _ rfl
    have g3 := hg 3 _ rfl
    have g4 := hg 4 _ rfl
    have g5 := hg 5 _ rfl
    have g6 := hg 6 _ rfl
    have g8 := hg 7 _ rfl
    have g9 := hg 8 _ rfl
    have g10 := hg 9 _ rfl
    have g11 := hg 10 _ rfl
    have g12 := hg 11 _ rfl
    have g13 := hg 12 _ rfl
    have g14 := hg 13 _ rfl
    simp [ecells_string, ecells_int, ecells_u8, ecells_time, ecells_map] at g0 g1 g2 g3 g4 g5 g6 g8 g9 g10 g11 g12 g13 g14
    obtain ⟨_, hgt⟩ := g6.struct Tryz.underlying23
    have g6a := hgt 0 _ rfl
    have g6b := hgt 1 _ rfl
    simp [ecells_int] at g6a g6b
    obtain ⟨s0, e0, b0⟩ := g0.string Tryz.underlying9
    obtain ⟨n1, e1, w1⟩ := g1.int Tryz.underlying5
    obtain ⟨n2, e2, w2⟩ := g2.int Tryz.underlying3
    obtain ⟨n3, e3, w3⟩ := g3.int Tryz.underlying3
    obtain ⟨n4, e4, w4⟩ := g4.int Tryz.underlying3
    obtain ⟨n5, e5, w5⟩ := g5.int Tryz.underlying3
    obtain ⟨n6, e6, w6⟩ := g6a.int Tryz.underlying3
    obtain ⟨n7, e7, w7⟩ := g6b.int Tryz.underlying3
    obtain ⟨s8, e8, b8⟩ := g8.string Tryz.underlying9
    obtain ⟨s9, e9, b9⟩ := g9.string Tryz.underlying9
    obtain ⟨s10, e10, b10⟩ := g10.string Tryz.underlying9
    obtain ⟨n11, e11, w11⟩ := g11.int Tryz.underlying3
    obtain ⟨n12, e12, w12⟩ := g12.int Tryz.underlying3
    obtain ⟨s13, e13, b13⟩ := g13.string Tryz.underlying9
    obtain ⟨a14, l14, k14, A, S, e14, b14, hp⟩ := rd_pieces g14
    simp at e0 e1 e2 e3 e4 e5 e6 e7 e8 e9 e10 e11 e12 e13 e14
    subst e0 e1 e2 e3 e4 e5 e6 e7 e8 e9 e10 e11 e12 e13 e14
    have hk := bounds_u8 w1
    exact ⟨⟨s0, n1, n2, n3, n4, n5, n6, n7, s8, s9, s10, n11, n12, s13, a14, l14, k14⟩, A, S, rfl, ⟨b0, b8, b9, b10, b13, b14, hk.1, hk.2⟩, hp⟩

set_option maxRecDepth 100000 in
theorem arg_ent {H : Type} {enc : TypeId × Value → H} {W : World} {base : Nat} {v : Value} {d : DataW H} {p : List MemPlace} {ts : List TypeId} {ds : List (DataW H)} {j : Nat}
    (hv : Value.okWide Tryz.prog W .any base 26 v) (h : DataW.Trod enc Tryz.prog W 0 (fun _ => true) true 26 v d p)
    (hsz : (DataW.weightsEach Tryz.prog ts ds).all (· ≤ reachBytes) = true) (ht : ts[j]? = some 26) (hd : ds[j]? = some d) :
    ∃ (e : Ent) (A S : Nat → Int), v = .agg #[.string e.nm, .int .u8 e.kd, .int .i64 e.md, .int .i64 e.ui, .int .i64 e.gi, .int .i64 e.sz, .int .i64 e.ts, .int .i64 e.tn, .string e.lk, .string e.us, .string e.gr, .int .i64 e.ma, .int .i64 e.mi, .string e.dt, .slice e.pa e.pn e.pc] ∧ e.Ok ∧ IsPieces W (.slice e.pa e.pn e.pc) e.pn A S := by
  obtain ⟨cs, rfl, _⟩ := okWide_struct Tryz.underlying26 hv
  obtain ⟨e, A, S, hcs, hb⟩ := rd_ent (Rd.ofArg h hsz ht hd)
  refine ⟨e, A, S, ?_, hb⟩
  obtain ⟨l⟩ := cs
  simp [Value.cells, Ent.cells] at hcs
  rw [hcs]

set_option maxRecDepth 100000 in
theorem arg_ents {H : Type} {enc : TypeId × Value → H} {W : World} {base : Nat} {v : Value} {d : DataW H} {p : List MemPlace} {ts : List TypeId} {ds : List (DataW H)} {j : Nat}
    (hv : Value.okWide Tryz.prog W .any base 30 v) (h : DataW.Trod enc Tryz.prog W 0 (fun _ => true) true 30 v d p)
    (hsz : (DataW.weightsEach Tryz.prog ts ds).all (· ≤ reachBytes) = true) (ht : ts[j]? = some 30) (hd : ds[j]? = some d) :
    ∃ (n : Nat) (E : Nat → Ent) (A S : Nat → Nat → Int), IsEnts W v n E ∧ ∀ k, k < n → IsPieces W (.slice (E k).pa (E k).pn (E k).pc) (E k).pn (A k) (S k) := by
  obtain ⟨a, len, cap, rfl⟩ := okWide_slice Tryz.underlying30 hv
  have e0 : Ent := ⟨⟨#[]⟩, 0, 0, 0, 0, 0, 0, 0, ⟨#[]⟩, ⟨#[]⟩, ⟨#[]⟩, 0, 0, ⟨#[]⟩, none, 0, 0⟩
  rcases (Rd.ofArg h hsz ht hd).slice Tryz.underlying30 with h0 | ⟨x, l, c, hcs, hlc, hc, hb, hi⟩
  · simp [Value.cells] at h0
    obtain ⟨rfl, rfl, rfl⟩ := h0
    exact ⟨0, fun _ => e0, fun _ _ => 0, fun _ _ => 0, .inl ⟨⟨_, _, rfl⟩, rfl⟩, fun k hk => by omega⟩
  · simp [Value.cells] at hcs
    obtain ⟨rfl, rfl, rfl⟩ := hcs
    rw [ecells_entry] at hi
    have hb' : len ≤ 8796093022200 := by
      have := ebytes_entry
      have h2 : len * 100 ≤ len * Tryz.prog.bytesOf 26 := Nat.mul_le_mul_left _ this
      omega
    have hq : ∀ i : Nat, ∃ q : Ent × (Nat → Int) × (Nat → Int), i < len → (∀ j, j < 15 → W.cell? (x.add (i * 15 + j)) = q.1.cells[j]?) ∧ q.1.Ok ∧ IsPieces W (.slice q.1.pa q.1.pn q.1.pc) q.1.pn q.2.1 q.2.2 := fun i => by
      by_cases hil : i < len
      · obtain ⟨ecs, _, hat, hr⟩ := hi i hil
        obtain ⟨e, A, S, rfl, ok, hp⟩ := rd_ent hr
        exact ⟨(e, A, S), fun _ => ⟨hat, ok, hp⟩⟩
      · exact ⟨(e0, fun _ => 0, fun _ => 0), fun h => absurd h hil⟩
    obtain ⟨f, hf⟩ := Classical.axiomOfChoice hq
    obtain ⟨b, off, spot⟩ := x
    by_cases hl0 : len = 0
    · subst hl0
      exact ⟨0, fun _ => e0, fun _ _ => 0, fun _ _ => 0, .inl ⟨⟨_, _, rfl⟩, rfl⟩, fun k hk => by omega⟩
    · have hspot : spot = none := by
        have h0 := (hf 0 (by omega)).1 0 (by omega)
        have : (f 0).1.cells[0]? = some (.string (f 0).1.nm) := rfl
        rw [this] at h0
        simpa [Addr.add] using World.cell?_spot h0
      subst hspot
      exact ⟨len, fun i => (f i).1, fun i => (f i).2.1, fun i => (f i).2.2, .inr ⟨b, off, cap, rfl, hb', fun k hk => ⟨(hf k hk).2.1, fun j hj => by
        have := (hf k hk).1 j hj
        rw [add_plain, ← Nat.add_assoc] at this
        exact this⟩⟩, fun k hk => (hf k hk).2.2⟩
end Go.Proofs.YtnbcbipigiopbaaGreatDoor
/-
  Arguments of type api.Entry, opened, with the capacity of their pieces.
-/
namespace Go.Proofs.YtnbcbipigiopbaaGreatDoor
open Go.ChangeShapes Go.WideShapes Go.ChangeAt Go.RowKit Go.ChangeMaps

set_option maxRecDepth 100000 in
theorem rd_cap {W : World} {a : Option Addr} {n c : Nat} (h : Rd W 24 [.slice a n c]) : n ≤ c := by
  rcases h.slice Tryz.underlying24 with h0 | ⟨x, l, c', hcs, hlc, hc, hb, hi⟩
  · simp at h0
    omega
  · simp at hcs
    omega
set_option maxRecDepth 100000 in
theorem rd_ent_cap {W : World} {e : Ent} (h : Rd W 26 e.cells) : e.pn ≤ e.pc := by
  obtain ⟨hl, hg⟩ := h.struct Tryz.underlying26
  have g14 := hg 13 _ rfl
  simp [Ent.cells] at g14
  exact rd_cap g14
set_option maxRecDepth 100000 in
theorem arg_entC {H : Type} {enc : TypeId × Value → H} {W : World} {base : Nat} {v : Value} {d : DataW H} {p : List MemPlace} {ts : List TypeId} {ds : List (DataW H)} {j : Nat}
    (hv : Value.okWide Tryz.prog W .any base 26 v) (h : DataW.Trod enc Tryz.prog W 0 (fun _ => true) true 26 v d p)
    (hsz : (DataW.weightsEach Tryz.prog ts ds).all (· ≤ reachBytes) = true) (ht : ts[j]? = some 26) (hd : ds[j]? = some d) :
    ∃ (e : Ent) (A S : Nat → Int), v = .agg #[.string e.nm, .int .u8 e.kd, .int .i64 e.md, .int .i64 e.ui, .int .i64 e.gi, .int .i64 e.sz, .int .i64 e.ts, .int .i64 e.tn, .string e.lk, .string e.us, .string e.gr, .int .i64 e.ma, .int .i64 e.mi, .string e.dt, .slice e.pa e.pn e.pc] ∧ e.Ok ∧ IsPieces W (.slice e.pa e.pn e.pc) e.pn A S ∧ e.pn ≤ e.pc := by
  obtain ⟨cs, rfl, _⟩ := okWide_struct Tryz.underlying26 hv
  have hR := Rd.ofArg h hsz ht hd
  obtain ⟨e, A, S, hcs, ok, hp⟩ := rd_ent hR
  rw [hcs] at hR
  refine ⟨e, A, S, ?_, ok, hp, rd_ent_cap hR⟩
  obtain ⟨l⟩ := cs
  simp [Value.cells, Ent.cells] at hcs
  rw [hcs]
end Go.Proofs.YtnbcbipigiopbaaGreatDoor
/-
  The frame of a law of a door seat, whose row lists the variable errors.errorType: as Frame, with the variable's content as a hypothesis.
-/
namespace Go.Proofs.YtnbcbipigiopbaaGreatDoor.Frame
open Go.ChangeShapes Go.WideShapes Go.ChangeAt Go.RowKit
open Go.ChangeMaps (open_string shut_string)

def WalksD (laid : List (String × DataW Unit)) (n : FuncId) (F : Func) : Prop :=
  ∀ (H : Type) (enc : TypeId × Value → H) (W : World) (base : Nat) (args : Array Value) (ds : List (DataW H)) (p : List MemPlace),
    laidMetH Tryz.prog laid W →
    (∀ (j : Nat) t v, F.params[j]? = some t → args[j]? = some v → Value.okWide Tryz.prog W .any base t v) →
    DataW.TrodAll enc Tryz.prog W 0 (fun _ => true) true F.params.toList args.toList ds p →
    (DataW.weightsEach Tryz.prog F.params.toList ds).all (· ≤ reachBytes) = true →
    Calls Tryz.prog n args W fun e W' => e = .returned (.bool true) ∧ Below W.heap.size W W'

set_option maxRecDepth 100000 in
theorem liftedD {n : FuncId} {F : Func} {s : ChangeSpec} {laid : List (String × DataW Unit)} {conds : List PathCond} (hF : Tryz.prog.funcs[n]? = some F) (hn : Tryz.prog.inits.idxOf? n = none) (hs : Plain s F)
    (hres : F.resultTypes = #[4]) (hread : ∀ t ∈ F.params.toList, Tryz.prog.readableRec t = true ∧ t < Tryz.prog.types.size) (hw : WalksD laid n F)
    (os : Os) (started : os.Started) (H : Type) (enc : TypeId × Value → H) (Fi : Stop.Interp)
    (witness : ∃ (w : World) (tape : Tape) (i : Input), w.os = os ∧ (w.forCall tape i).Shaped Tryz.checked.prog ∧ i.vars = [] ∧ Input.okWide Tryz.checked.prog (w.forCall tape i) .any w.heap.size n i ∧
      (OpenSpec.ofChange s).preRow enc Tryz.checked.prog F conds false laid (w.forCall tape i).memory i.args ∧ ({} : Assume).holds Tryz.checked.prog (lone (Frame.enter Tryz.checked.prog n i.args .normal) [] (w.forCall tape i))) :
    ReturnsInHanded {} Tryz.checked os n .any ((OpenSpec.ofChange s).preRow enc Tryz.prog F conds false laid) (((OpenSpec.ofChange s).at Fi).post enc Tryz.prog F false true false false) := by
  refine returnsInHanded_of_row (C := Tryz.checked) (s := OpenSpec.ofChange s) own started hn hF witness ?_
  intro W base args ds gs before hval hW _ _ hsz hL _ _
  have hW' : DataW.Whole enc Tryz.prog F.params.toList s.vars false W args.toList ds gs before := hW
  obtain ⟨p, q, hA, hV, rfl, hfz, hnd⟩ := hW
  obtain ⟨hvars, hfn⟩ := hs
  have hV' : DataW.TrodVars enc Tryz.prog W (fun _ => true) s.vars gs q := hV
  rw [hvars] at hV'
  obtain ⟨rfl, rfl⟩ : gs = [] ∧ q = [] := by
    cases gs with
    | nil => exact ⟨rfl, hV'⟩
    | cons _ _ => exact hV'.elim
  have hlen := trodAll_length hA
  have hlt := trodAll_lt hA
  have hsz' : (DataW.weightsEach Tryz.prog F.params.toList ds).all (· ≤ reachBytes) = true := by
    have e : (OpenSpec.ofChange s).bare.plain.varTypes Tryz.prog = [] := by simp [OpenSpec.ofChange, OpenSpec.bare, ChangeSpec.plain, DataSpec.varTypes, hvars]
    have := hsz
    rw [show (OpenSpec.ofChange s).bare.plain.varTypes Tryz.checked.prog = [] from e, List.append_nil, List.append_nil] at this
    exact this
  refine (hw H enc W base args ds p hL hval hA hsz').mono fun e W' ⟨he, hb⟩ => ?_
  subst he
  have hf := hfn H ds hlen
  show ∃ v, _ ∧ s.post enc Tryz.prog F false true false false W args v W'
  refine ⟨_, rfl, ds, [], _, [], p, [], hW', ?_, ?_, ?_, hb.frame _, fun h => by cases h⟩
  · rw [hf, hres]
    exact trodAll_mk1 (shut_bool under_bool _)
  · rw [hf]
    exact trodAll_below laidOut hb hread hA hlt
  · rw [hf, hvars]
    rfl

/-! ### The laid variable errors.errorType -/
theorem et : Tryz.prog.globalNamed "errors.errorType" = some 0 := by kernel_rfl
theorem rt : (Tryz.prog.cutTypes.find? (·.1 == "internal/reflectlite.rtype")).map (·.2) = some 197 := by kernel_rfl
theorem oneRow : ((List.range 268).filter fun t => Tryz.prog.rowNamed t [101, 114, 114, 111, 114]) = [39] := by kernel_rfl
theorem typesSize : Tryz.prog.types.size = 268 := by kernel_rfl
theorem handle_of_laid {W : World} (h : laidMetH Tryz.prog [("errors.errorType", Rows.laid_errors_errorType)] W) : HasHandle W := by
  have h' : laidMet Tryz.prog [] W ∧ handlesMet Tryz.prog [("errors.errorType", Rows.laid_errors_errorType)] W := h
  obtain ⟨name, u, ty, e1, e2, e3, e4, e5⟩ := h'.2 _ (List.mem_singleton.2 rfl)
  have en : name = [101, 114, 114, 111, 114] := (Option.some.inj e1).symm
  subst en
  obtain rfl := Option.some.inj (rt.symm.trans e2)
  have hm : ty ∈ (List.range 268).filter fun t => Tryz.prog.rowNamed t [101, 114, 114, 111, 114] := List.mem_filter.2 ⟨List.mem_range.2 (by rw [← typesSize]; exact e3), e4⟩
  rw [oneRow] at hm
  obtain rfl := List.mem_singleton.1 hm
  have hh : typeHandle Tryz.prog 39 = .pointer (some ⟨7, 39, none⟩) := by kernel_rfl
  rw [hh] at e5
  unfold HasHandle
  simpa using World.var?_cell et e5 0

noncomputable def laidWorld (os : Os) : World :=
  let w0 := World.holding Tryz.prog os ⟨#[], #[], []⟩
  { w0 with heap := w0.heap.modify 0 fun
      | .cells _ t frozen => .cells #[.iface 197 (.agg #[.pointer (some ⟨7, 39, none⟩)])] t frozen
      | o => o }
theorem laidWorld_met (os : Os) (args : Array Value) : laidMetH Tryz.prog [("errors.errorType", Rows.laid_errors_errorType)] ((laidWorld os).forCall (fun _ _ => 0) ⟨#[], args, []⟩).memory :=
  laidMetH_of_parts (laidMet_nil _ _) (by kernel_rfl)
end Go.Proofs.YtnbcbipigiopbaaGreatDoor.Frame
/-
  The frame of a law of a door seat, whose row lists variables of the library: as Frame; the variables' content and the world's shape are hypotheses of the walk.
-/
namespace Go.Proofs.YtnbcbipigiopbaaGreatDoor.Frame
open Go.ChangeShapes Go.WideShapes Go.ChangeAt Go.RowKit
open Go.ChangeMaps (open_string shut_string)

def WalksP (laid : List (String × DataW Unit)) (n : FuncId) (F : Func) : Prop :=
  ∀ (H : Type) (enc : TypeId × Value → H) (W : World) (base : Nat) (args : Array Value) (ds : List (DataW H)) (p : List MemPlace),
    laidMetH Tryz.prog laid W →
    W.ShapedOpen Tryz.prog →
    (∀ (j : Nat) t v, F.params[j]? = some t → args[j]? = some v → Value.okWide Tryz.prog W .any base t v) →
    DataW.TrodAll enc Tryz.prog W 0 (fun _ => true) true F.params.toList args.toList ds p →
    (DataW.weightsEach Tryz.prog F.params.toList ds).all (· ≤ reachBytes) = true →
    Calls Tryz.prog n args W fun e W' => e = .returned (.bool true) ∧ Below W.heap.size W W'

set_option maxRecDepth 100000 in
theorem liftedP {n : FuncId} {F : Func} {s : ChangeSpec} {laid : List (String × DataW Unit)} {conds : List PathCond} (hF : Tryz.prog.funcs[n]? = some F) (hn : Tryz.prog.inits.idxOf? n = none) (hs : Plain s F)
    (hres : F.resultTypes = #[4]) (hread : ∀ t ∈ F.params.toList, Tryz.prog.readableRec t = true ∧ t < Tryz.prog.types.size) (hw : WalksP laid n F)
    (os : Os) (started : os.Started) (H : Type) (enc : TypeId × Value → H) (Fi : Stop.Interp)
    (witness : ∃ (w : World) (tape : Tape) (i : Input), w.os = os ∧ (w.forCall tape i).Shaped Tryz.checked.prog ∧ i.vars = [] ∧ Input.okWide Tryz.checked.prog (w.forCall tape i) .any w.heap.size n i ∧
      (OpenSpec.ofChange s).preRow enc Tryz.checked.prog F conds false laid (w.forCall tape i).memory i.args ∧ ({} : Assume).holds Tryz.checked.prog (lone (Frame.enter Tryz.checked.prog n i.args .normal) [] (w.forCall tape i))) :
    ReturnsInHanded {} Tryz.checked os n .any ((OpenSpec.ofChange s).preRow enc Tryz.prog F conds false laid) (((OpenSpec.ofChange s).at Fi).post enc Tryz.prog F false true false false) := by
  refine returnsInHanded_of_row (C := Tryz.checked) (s := OpenSpec.ofChange s) own started hn hF witness ?_
  intro W base args ds gs before hval hW _ _ hsz hL hSh _
  have hW' : DataW.Whole enc Tryz.prog F.params.toList s.vars false W args.toList ds gs before := hW
  obtain ⟨p, q, hA, hV, rfl, hfz, hnd⟩ := hW
  obtain ⟨hvars, hfn⟩ := hs
  have hV' : DataW.TrodVars enc Tryz.prog W (fun _ => true) s.vars gs q := hV
  rw [hvars] at hV'
  obtain ⟨rfl, rfl⟩ : gs = [] ∧ q = [] := by
    cases gs with
    | nil => exact ⟨rfl, hV'⟩
    | cons _ _ => exact hV'.elim
  have hlen := trodAll_length hA
  have hlt := trodAll_lt hA
  have hsz' : (DataW.weightsEach Tryz.prog F.params.toList ds).all (· ≤ reachBytes) = true := by
    have e : (OpenSpec.ofChange s).bare.plain.varTypes Tryz.prog = [] := by simp [OpenSpec.ofChange, OpenSpec.bare, ChangeSpec.plain, DataSpec.varTypes, hvars]
    have := hsz
    rw [show (OpenSpec.ofChange s).bare.plain.varTypes Tryz.checked.prog = [] from e, List.append_nil, List.append_nil] at this
    exact this
  refine (hw H enc W base args ds p hL hSh hval hA hsz').mono fun e W' ⟨he, hb⟩ => ?_
  subst he
  have hf := hfn H ds hlen
  show ∃ v, _ ∧ s.post enc Tryz.prog F false true false false W args v W'
  refine ⟨_, rfl, ds, [], _, [], p, [], hW', ?_, ?_, ?_, hb.frame _, fun h => by cases h⟩
  · rw [hf, hres]
    exact trodAll_mk1 (shut_bool under_bool _)
  · rw [hf]
    exact trodAll_below laidOut hb hread hA hlt
  · rw [hf, hvars]
    rfl

/-- The world in which the listed data lie. -/
noncomputable def dataWorld (os : Os) (laid : List (String × DataW Unit)) : World := World.laidAll Tryz.prog os laid
theorem dataWorld_met {os : Os} {laid : List (String × DataW Unit)} (hp : (laid.filter fun x => x.2.handleName?.isSome) = []) (args : Array Value)
    (hf : (World.holding Tryz.prog os ⟨#[], #[], []⟩).layFits Tryz.prog laid [] = true)
    (hi : (World.holding Tryz.prog os ⟨#[], #[], []⟩).layIfaces Tryz.prog laid (World.laidAll Tryz.prog os laid) = true) :
    laidMetH Tryz.prog laid ((dataWorld os laid).forCall (fun _ _ => 0) ⟨#[], args, []⟩).memory := by
  unfold laidMetH
  rw [hp]
  exact laidMet_laidAll args hf hi
end Go.Proofs.YtnbcbipigiopbaaGreatDoor.Frame
/-
  The frame of a law of a door seat, whose row lists errors.errorType and tables of the library, both.
-/
namespace Go.Proofs.YtnbcbipigiopbaaGreatDoor.Frame
open Go.ChangeShapes Go.WideShapes Go.ChangeAt Go.RowKit

/-- The listed variables that are data. -/
def dataOf (laid : List (String × DataW Unit)) : List (String × DataW Unit) := laid.filter fun x => x.2.handleName?.isNone
theorem handle_of_laidB {laid : List (String × DataW Unit)} {W : World} (hf : (laid.filter fun x => x.2.handleName?.isSome) = [("errors.errorType", Rows.laid_errors_errorType)]) (h : laidMetH Tryz.prog laid W) : HasHandle W := by
  unfold laidMetH at h
  rw [hf] at h
  refine handle_of_laid (W := W) ?_
  exact (show laidMet Tryz.prog [] W ∧ handlesMet Tryz.prog [("errors.errorType", Rows.laid_errors_errorType)] W from ⟨⟨[], rfl, List.nodup_nil, fun _ _ h => by cases h⟩, h.2⟩)
theorem data_of_laidB {laid : List (String × DataW Unit)} {W : World} (hf : (laid.filter fun x => x.2.handleName?.isSome) = [("errors.errorType", Rows.laid_errors_errorType)]) (h : laidMetH Tryz.prog laid W) : laidMet Tryz.prog (dataOf laid) W := by
  unfold laidMetH at h
  rw [hf] at h
  exact h.1

/-- The world in which the listed variables lie. -/
noncomputable def bothWorld (os : Os) (laid : List (String × DataW Unit)) : World := (laidWorld os).layVars Tryz.prog (dataOf laid)
theorem bothWorld_met {os : Os} {laid : List (String × DataW Unit)} (args : Array Value)
    (hf : (laidWorld os).layFits Tryz.prog (dataOf laid) [] = true)
    (hi : (laidWorld os).layIfaces Tryz.prog (dataOf laid) (bothWorld os laid) = true)
    (hh : (laid.filter fun x => x.2.handleName?.isSome).all (handleAtB Tryz.prog (((bothWorld os laid).forCall (fun _ _ => 0) ⟨#[], args, []⟩).memory)) = true) :
    laidMetH Tryz.prog laid ((bothWorld os laid).forCall (fun _ _ => 0) ⟨#[], args, []⟩).memory := by
  refine laidMetH_of_parts ?_ hh
  show laidMet Tryz.prog (dataOf laid) _
  generalize hD : dataOf laid = D at *
  have e1 : (D.filter fun x => (D.map (·.1)).contains x.1) = D := List.filter_eq_self.2 fun x hx => List.contains_iff_mem.2 (List.mem_map.2 ⟨x, hx, rfl⟩)
  have e2 : (D.filter fun x => !(D.map (·.1)).contains x.1) = [] := List.filter_eq_nil_iff.2 fun x hx => by rw [List.contains_iff_mem.2 (List.mem_map.2 ⟨x, hx, rfl⟩)]; simp
  have hb : bothWorld os laid = (laidWorld os).layVars Tryz.prog D := by unfold bothWorld; rw [hD]
  rw [hb] at hi ⊢
  have h : laidMet Tryz.prog D ((laidWorld os).layVars Tryz.prog D) := laidMet_layVars (w0 := laidWorld os) (D.map (·.1)) [] (by rw [e1]) (by rw [e1]; exact hf) (by rw [e1]; exact hi) (by rw [e2]; exact LaidIn.none)
  exact h.of_heap (by simp [World.memory, World.forCall, Input.heap])
end Go.Proofs.YtnbcbipigiopbaaGreatDoor.Frame
/-
  The witness of a row that lists a slice of the library: the world's shape in one pass.
-/
namespace Go.Proofs.YtnbcbipigiopbaaGreatDoor.Frame
open Go.ChangeShapes Go.WideShapes Go.ChangeAt Go.RowKit
variable {H : Type} {enc : TypeId × Value → H}

theorem witness_zip {C : Checked} {os : Os} {f : FuncId} {fn : Func} {s : OpenSpec} {conds : List PathCond} {apart : Bool} {laid : List (String × DataW Unit)} (modest : Bool) (w0 : World) (args : Array Value) (hos : w0.os = os)
    (hv : (w0.forCall (fun _ _ => 0) ⟨#[], args, []⟩).variablesZipB C.prog = true)
    (hr : ((w0.forCall (fun _ _ => 0) ⟨#[], args, []⟩).heap.toList.drop C.prog.globals.size).take ((begin C.prog (fun _ _ => 0) default).world.heap.size - C.prog.globals.size) =
      (begin C.prog (fun _ _ => 0) default).world.heap.toList.drop C.prog.globals.size)
    (hok : Input.okWideB C.prog (w0.forCall (fun _ _ => 0) ⟨#[], args, []⟩) f ⟨#[], args, []⟩ = true)
    (hrow : s.preRow enc C.prog fn conds apart laid (w0.forCall (fun _ _ => 0) ⟨#[], args, []⟩).memory args) :
    ∃ (w : World) (tape : Tape) (i : Input), w.os = os ∧ (w.forCall tape i).Shaped C.prog ∧ i.vars = [] ∧ Input.okWide C.prog (w.forCall tape i) .any w.heap.size f i ∧
      s.preRow enc C.prog fn conds apart laid (w.forCall tape i).memory i.args ∧ ({ modest := modest } : Assume).holds C.prog (lone (Frame.enter C.prog f i.args .normal) [] (w.forCall tape i)) :=
  ⟨w0, fun _ _ => 0, ⟨#[], args, []⟩, hos, World.shaped_of_ZipB hv hr, (Input.okWide_of_okWideB (base := 0) hok).1, (Input.okWide_of_okWideB hok).2, hrow, by
    simp only [Assume.holds]
    exact ⟨by simp, by simp, fun _ => Modest.zero, by simp, by simp⟩⟩
end Go.Proofs.YtnbcbipigiopbaaGreatDoor.Frame
