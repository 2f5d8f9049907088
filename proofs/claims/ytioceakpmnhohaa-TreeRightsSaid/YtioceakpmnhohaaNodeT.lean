/-
  A node as an argument.
-/
import Derived.Test.YtioceakpmnhohaaNum
import Derived.Test.YtioceakpmnhohaaRead
namespace Go.Proofs.Ytioceakpmnhohaa
open Go.RowKit Go.WideShapes Go.ChangeMaps

theorem ncells_node : Try.prog.cellsOf 30 = 10 := by kernel_rfl
theorem ncells_time : Try.prog.cellsOf 23 = 2 := by kernel_rfl
theorem ncells_string : Try.prog.cellsOf 9 = 1 := by kernel_rfl
theorem ncells_int : Try.prog.cellsOf 3 = 1 := by kernel_rfl
theorem ncells_u8 : Try.prog.cellsOf 5 = 1 := by kernel_rfl

theorem rd_node {W : World} {cs : List Value} (h : Rd W 30 cs) : ∃ (dt lk : ByteArray) (kd md ui gi ts tn ma mi : Int),
    cs = [.int .u8 kd, .int .i64 md, .int .i64 ui, .int .i64 gi, .int .i64 ts, .int .i64 tn, .string dt, .string lk, .int .i64 ma, .int .i64 mi] ∧
    dt.size ≤ 140737488351232 ∧ lk.size ≤ 140737488351232 ∧ 0 ≤ kd ∧ kd ≤ 255 := by
  obtain ⟨hl, hg⟩ := h.struct Try.underlying30
  rw [ncells_node] at hl
  match cs, hl with
  | [c0, c1, c2, c3, c4, c5, c6, c7, c8, c9], _ =>
    have g0 := hg 0 _ rfl
    have g1 := hg 1 _ rfl
    have g2 := hg 2 _ rfl
    have g3 := hg 3 _ rfl
    have g4 := hg 4 _ rfl
    have g6 := hg 5 _ rfl
    have g7 := hg 6 _ rfl
    have g8 := hg 7 _ rfl
    have g9 := hg 8 _ rfl
    simp [ncells_string, ncells_int, ncells_u8, ncells_time] at g0 g1 g2 g3 g4 g6 g7 g8 g9
    obtain ⟨_, hgt⟩ := g4.struct Try.underlying23
    have g4a := hgt 0 _ rfl
    have g4b := hgt 1 _ rfl
    simp [ncells_int] at g4a g4b
    obtain ⟨n0, e0, w0⟩ := g0.int Try.underlying5
    obtain ⟨n1, e1, w1⟩ := g1.int Try.underlying3
    obtain ⟨n2, e2, w2⟩ := g2.int Try.underlying3
    obtain ⟨n3, e3, w3⟩ := g3.int Try.underlying3
    obtain ⟨n4, e4, w4⟩ := g4a.int Try.underlying3
    obtain ⟨n5, e5, w5⟩ := g4b.int Try.underlying3
    obtain ⟨s6, e6, b6⟩ := g6.string Try.underlying9
    obtain ⟨s7, e7, b7⟩ := g7.string Try.underlying9
    obtain ⟨n8, e8, w8⟩ := g8.int Try.underlying3
    obtain ⟨n9, e9, w9⟩ := g9.int Try.underlying3
    simp at e0 e1 e2 e3 e4 e5 e6 e7 e8 e9
    subst e0 e1 e2 e3 e4 e5 e6 e7 e8 e9
    have hk := bounds_u8 w0
    exact ⟨s6, s7, n0, n1, n2, n3, n4, n5, n8, n9, rfl, b6, b7, hk.1, hk.2⟩

theorem arg_node {H : Type} {enc : TypeId × Value → H} {W : World} {base : Nat} {v : Value} {d : DataW H} {p : List MemPlace} {ts : List TypeId} {ds : List (DataW H)} {j : Nat}
    (hv : Value.okWide Try.prog W .any base 30 v) (h : DataW.Trod enc Try.prog W 0 (fun _ => true) true 30 v d p)
    (hsz : (DataW.weightsEach Try.prog ts ds).all (· ≤ reachBytes) = true) (ht : ts[j]? = some 30) (hd : ds[j]? = some d) :
    ∃ (dt lk : ByteArray) (kd md ui gi tm tn ma mi : Int), v = .agg #[.int .u8 kd, .int .i64 md, .int .i64 ui, .int .i64 gi, .int .i64 tm, .int .i64 tn, .string dt, .string lk, .int .i64 ma, .int .i64 mi] ∧
    dt.size ≤ 140737488351232 ∧ lk.size ≤ 140737488351232 ∧ 0 ≤ kd ∧ kd ≤ 255 := by
  obtain ⟨cs, rfl, _⟩ := okWide_struct Try.underlying30 hv
  obtain ⟨dt, lk, kd, md, ui, gi, tm, tn, ma, mi, hcs, hb⟩ := rd_node (Rd.ofArg h hsz ht hd)
  refine ⟨dt, lk, kd, md, ui, gi, tm, tn, ma, mi, ?_, hb⟩
  obtain ⟨l⟩ := cs
  simp [Value.cells] at hcs
  rw [hcs]
end Go.Proofs.Ytioceakpmnhohaa
