/-
  Arguments of type api.Entry and []api.Entry, opened.
-/
import Derived.Test.YtbofobakphlpbaaDoorEnt
import Derived.Test.YtbofobakphlpbaaDoorPieces
namespace Go.Proofs.YtbofobakphlpbaaDoor
open Go.ChangeShapes Go.WideShapes Go.ChangeAt Go.RowKit Go.ChangeMaps

theorem ecells_entry : Tryd.prog.cellsOf 40 = 15 := by kernel_rfl
theorem ebytes_entry : 100 ≤ Tryd.prog.bytesOf 40 := of_decide_eq_true (by kernel_rfl)
theorem ecells_time : Tryd.prog.cellsOf 37 = 2 := by kernel_rfl
theorem ecells_string : Tryd.prog.cellsOf 9 = 1 := by kernel_rfl
theorem ecells_int : Tryd.prog.cellsOf 3 = 1 := by kernel_rfl
theorem ecells_u8 : Tryd.prog.cellsOf 5 = 1 := by kernel_rfl
theorem ecells_map : Tryd.prog.cellsOf 38 = 1 := by kernel_rfl

set_option maxRecDepth 100000 in
/-- A slice of pieces, read. -/
theorem rd_pieces {W : World} {cs : List Value} (h : Rd W 38 cs) : ∃ (a : Option Addr) (n c : Nat) (A S : Nat → Int), cs = [.slice a n c] ∧ n ≤ 8796093022200 ∧ IsPieces W (.slice a n c) n A S := by
  rcases h.slice Tryd.underlying38 with h0 | ⟨x, l, c, hcs, hlc, hc, hb, hi⟩
  · exact ⟨none, 0, 0, fun _ => 0, fun _ => 0, h0, by omega, .inl ⟨⟨_, _, rfl⟩, rfl⟩⟩
  · rw [cells_piece] at hi
    rw [bytes_piece] at hb
    have hq : ∀ i : Nat, ∃ q : Int × Int, i < l → W.cell? (x.add (i * 2)) = some (.int .i64 q.1) ∧ W.cell? (x.add (i * 2 + 1)) = some (.int .i64 q.2) := fun i => by
      by_cases hil : i < l
      · obtain ⟨ecs, _, hat, hr⟩ := hi i hil
        obtain ⟨a, s, rfl⟩ := rd_piece hr
        exact ⟨(a, s), fun _ => ⟨by simpa using hat 0 (by omega), by simpa using hat 1 (by omega)⟩⟩
      · exact ⟨(0, 0), fun h => absurd h hil⟩
    obtain ⟨f, hf⟩ := Classical.axiomOfChoice hq
    obtain ⟨b, off, spot⟩ := x
    by_cases hl0 : l = 0
    · subst hl0
      exact ⟨_, 0, c, fun _ => 0, fun _ => 0, hcs, by omega, .inl ⟨⟨_, _, rfl⟩, rfl⟩⟩
    · have hspot : spot = none := by simpa [Addr.add] using World.cell?_spot (hf 0 (by omega)).1
      subst hspot
      exact ⟨_, l, c, fun i => (f i).1, fun i => (f i).2, hcs, by omega, .inr ⟨b, off, c, rfl, by omega, fun k hk => by
        have := hf k hk
        rw [add_plain, add_plain, ← Nat.add_assoc] at this
        exact this⟩⟩

set_option maxRecDepth 100000 in
/-- A member's cells, read. -/
theorem rd_ent {W : World} {cs : List Value} (h : Rd W 40 cs) : ∃ (e : Ent) (A S : Nat → Int), cs = e.cells ∧ e.Ok ∧ IsPieces W (.slice e.pa e.pn e.pc) e.pn A S := by
  obtain ⟨hl, hg⟩ := h.struct Tryd.underlying40
  rw [ecells_entry] at hl
  match cs, hl with
  | [c0, c1, c2, c3, c4, c5, c6, c7, c8, c9, c10, c11, c12, c13, c14], _ =>
    have g0 := hg 0 _ rfl
    have g1 := hg 1 _ rfl
    have g2 := hg 2 _ rfl
    have g3 := hg 3 _ rfl
    have g4 := hg 4 _ rfl
    have g5 := hg 5 _ rfl
    have g6 := hg 6 _ rfl
    have g8 := hg 7 _ rfl
    have g9 := hg 8 _ rfl
    have g10 := hg 9 _ rfl
    have g11 := hg 10 _ rfl
    have g12 := hg 11 _ rfl
    have g13 := hg 12 _ rfl
    have g14 := hg 13 _ rfl
    simp [ecells_string, ecells_int, ecells_u8, ecells_time, ecells_map] at g0 g1 g2 g3 g4 g5 g6 g8 g9 g10 g11 g12 g13 g14
    obtain ⟨_, hgt⟩ := g6.struct Tryd.underlying37
    have g6a := hgt 0 _ rfl
    have g6b := hgt 1 _ rfl
    simp [ecells_int] at g6a g6b
    obtain ⟨s0, e0, b0⟩ := g0.string Tryd.underlying9
    obtain ⟨n1, e1, w1⟩ := g1.int Tryd.underlying5
    obtain ⟨n2, e2, w2⟩ := g2.int Tryd.underlying3
    obtain ⟨n3, e3, w3⟩ := g3.int Tryd.underlying3
    obtain ⟨n4, e4, w4⟩ := g4.int Tryd.underlying3
    obtain ⟨n5, e5, w5⟩ := g5.int Tryd.underlying3
    obtain ⟨n6, e6, w6⟩ := g6a.int Tryd.underlying3
    obtain ⟨n7, e7, w7⟩ := g6b.int Tryd.underlying3
    obtain ⟨s8, e8, b8⟩ := g8.string Tryd.underlying9
    obtain ⟨s9, e9, b9⟩ := g9.string Tryd.underlying9
    obtain ⟨s10, e10, b10⟩ := g10.string Tryd.underlying9
    obtain ⟨n11, e11, w11⟩ := g11.int Tryd.underlying3
    obtain ⟨n12, e12, w12⟩ := g12.int Tryd.underlying3
    obtain ⟨s13, e13, b13⟩ := g13.string Tryd.underlying9
    obtain ⟨a14, l14, k14, A, S, e14, b14, hp⟩ := rd_pieces g14
    simp at e0 e1 e2 e3 e4 e5 e6 e7 e8 e9 e10 e11 e12 e13 e14
    subst e0 e1 e2 e3 e4 e5 e6 e7 e8 e9 e10 e11 e12 e13 e14
    have hk := bounds_u8 w1
    exact ⟨⟨s0, n1, n2, n3, n4, n5, n6, n7, s8, s9, s10, n11, n12, s13, a14, l14, k14⟩, A, S, rfl, ⟨b0, b8, b9, b10, b13, b14, hk.1, hk.2⟩, hp⟩

set_option maxRecDepth 100000 in
theorem arg_ent {H : Type} {enc : TypeId × Value → H} {W : World} {base : Nat} {v : Value} {d : DataW H} {p : List MemPlace} {ts : List TypeId} {ds : List (DataW H)} {j : Nat}
    (hv : Value.okWide Tryd.prog W .any base 40 v) (h : DataW.Trod enc Tryd.prog W 0 (fun _ => true) true 40 v d p)
    (hsz : (DataW.weightsEach Tryd.prog ts ds).all (· ≤ reachBytes) = true) (ht : ts[j]? = some 40) (hd : ds[j]? = some d) :
    ∃ (e : Ent) (A S : Nat → Int), v = .agg #[.string e.nm, .int .u8 e.kd, .int .i64 e.md, .int .i64 e.ui, .int .i64 e.gi, .int .i64 e.sz, .int .i64 e.ts, .int .i64 e.tn, .string e.lk, .string e.us, .string e.gr, .int .i64 e.ma, .int .i64 e.mi, .string e.dt, .slice e.pa e.pn e.pc] ∧ e.Ok ∧ IsPieces W (.slice e.pa e.pn e.pc) e.pn A S := by
  obtain ⟨cs, rfl, _⟩ := okWide_struct Tryd.underlying40 hv
  obtain ⟨e, A, S, hcs, hb⟩ := rd_ent (Rd.ofArg h hsz ht hd)
  refine ⟨e, A, S, ?_, hb⟩
  obtain ⟨l⟩ := cs
  simp [Value.cells, Ent.cells] at hcs
  rw [hcs]

end Go.Proofs.YtbofobakphlpbaaDoor
