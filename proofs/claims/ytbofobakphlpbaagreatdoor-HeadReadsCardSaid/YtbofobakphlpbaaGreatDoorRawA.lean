/-
  What a header tells: thick, rawOf, and the argument with its bounds.
-/
import Derived.Test.YtbofobakphlpbaaGreatDoorNum
import Derived.Test.YtbofobakphlpbaaGreatDoorRead
import Derived.Lib.Strings
namespace Go.Proofs.YtbofobakphlpbaaGreatDoor
open Go.RowKit Go.WideShapes
variable (nm lk us gr fr : ByteArray) (kd md ui gi sz tm ma mi : Int) (w : World)

theorem rawOf_any : Calls Tryz.prog 14 #[.agg #[.string nm, .string lk, .string us, .string gr, .string fr, .int .u8 kd, .int .i64 md, .int .i64 ui, .int .i64 gi, .int .i64 sz, .int .i64 tm, .int .i64 ma, .int .i64 mi]] w fun e w' => e = .returned (.agg #[.string nm, .string lk, .string us, .string gr, .string fr, .int .u8 kd, .int .i64 md, .int .i64 ui, .int .i64 gi, .int .i64 sz, .int .i64 tm, .int .i64 ma, .int .i64 mi]) ∧ Ext w w' := by
  go_enter Tryz.func14, Tryz.ntmps14
  go_wp2_with fail
  go_returns
  exact ⟨rfl, (by show Below _ _ _; repeat' (first | (with_reducible exact Below.refl _ _) | (with_reducible assumption) | (with_reducible refine belowDrewN ?_ _) | (with_reducible refine Below.alloc ?_ ?_ _) | (with_reducible refine Below.drew ?_) | (with_reducible refine Below.setCell ?_ ?_ _) | go_size))⟩

set_option maxRecDepth 100000 in
theorem cells_raw : Tryz.prog.cellsOf 36 = 13 := by kernel_rfl
theorem cells_string : Tryz.prog.cellsOf 9 = 1 := by kernel_rfl
theorem cells_int : Tryz.prog.cellsOf 3 = 1 := by kernel_rfl
theorem cells_u8 : Tryz.prog.cellsOf 5 = 1 := by kernel_rfl

set_option maxRecDepth 100000 in
theorem rd_raw {W : World} {cs : List Value} (h : Rd W 36 cs) : ∃ (nm lk us gr fr : ByteArray) (kd md ui gi sz tm ma mi : Int),
    cs = [.string nm, .string lk, .string us, .string gr, .string fr, .int .u8 kd, .int .i64 md, .int .i64 ui, .int .i64 gi, .int .i64 sz, .int .i64 tm, .int .i64 ma, .int .i64 mi] ∧
    nm.size ≤ 140737488351232 ∧ lk.size ≤ 140737488351232 ∧ us.size ≤ 140737488351232 ∧ gr.size ≤ 140737488351232 ∧ fr.size ≤ 140737488351232 ∧ (Lit.int .u8 kd).wf = true ∧ (Lit.int .i64 md).wf = true ∧ (Lit.int .i64 ui).wf = true ∧ (Lit.int .i64 gi).wf = true ∧ (Lit.int .i64 sz).wf = true ∧ (Lit.int .i64 tm).wf = true ∧ (Lit.int .i64 ma).wf = true ∧ (Lit.int .i64 mi).wf = true := by
  obtain ⟨hl, hg⟩ := h.struct Tryz.underlying36
  rw [cells_raw] at hl
  match cs, hl with
  | [c0, c1, c2, c3, c4, c5, c6, c7, c8, c9, c10, c11, c12], _ =>
    have g0 := hg 0 _ rfl
    have g1 := hg 1 _ rfl
    have g2 := hg 2 _ rfl
    have g3 := hg 3 _ rfl
    have g4 := hg 4 _ rfl
    have g5 := hg 5 _ rfl
    have g6 := hg 6 _ rfl
    have g7 := hg 7 _ rfl
    have g8 := hg 8 _ rfl
    have g9 := hg 9 _ rfl
    have g10 := hg 10 _ rfl
    have g11 := hg 11 _ rfl
    have g12 := hg 12 _ rfl
    simp [cells_string, cells_int, cells_u8] at g0 g1 g2 g3 g4 g5 g6 g7 g8 g9 g10 g11 g12
    obtain ⟨s0, e0, b0⟩ := g0.string Tryz.underlying9
    obtain ⟨s1, e1, b1⟩ := g1.string Tryz.underlying9
    obtain ⟨s2, e2, b2⟩ := g2.string Tryz.underlying9
    obtain ⟨s3, e3, b3⟩ := g3.string Tryz.underlying9
    obtain ⟨s4, e4, b4⟩ := g4.string Tryz.underlying9
    obtain ⟨n5, e5, w5⟩ := g5.int Tryz.underlying5
    obtain ⟨n6, e6, w6⟩ := g6.int Tryz.underlying3
    obtain ⟨n7, e7, w7⟩ := g7.int Tryz.underlying3
    obtain ⟨n8, e8, w8⟩ := g8.int Tryz.underlying3
    obtain ⟨n9, e9, w9⟩ := g9.int Tryz.underlying3
    obtain ⟨n10, e10, w10⟩ := g10.int Tryz.underlying3
    obtain ⟨n11, e11, w11⟩ := g11.int Tryz.underlying3
    obtain ⟨n12, e12, w12⟩ := g12.int Tryz.underlying3
    simp at e0 e1 e2 e3 e4 e5 e6 e7 e8 e9 e10 e11 e12
    subst e0 e1 e2 e3 e4 e5 e6 e7 e8 e9 e10 e11 e12
    exact ⟨s0, s1, s2, s3, s4, n5, n6, n7, n8, n9, n10, n11, n12, rfl, b0, b1, b2, b3, b4, w5, w6, w7, w8, w9, w10, w11, w12⟩

set_option maxRecDepth 100000 in
theorem arg_raw {H : Type} {enc : TypeId × Value → H} {W : World} {base : Nat} {v : Value} {d : DataW H} {p : List MemPlace} {ts : List TypeId} {ds : List (DataW H)} {j : Nat}
    (hv : Value.okWide Tryz.prog W .any base 36 v) (h : DataW.Trod enc Tryz.prog W 0 (fun _ => true) true 36 v d p)
    (hsz : (DataW.weightsEach Tryz.prog ts ds).all (· ≤ reachBytes) = true) (ht : ts[j]? = some 36) (hd : ds[j]? = some d) :
    ∃ (nm lk us gr fr : ByteArray) (kd md ui gi sz tm ma mi : Int), v = .agg #[.string nm, .string lk, .string us, .string gr, .string fr, .int .u8 kd, .int .i64 md, .int .i64 ui, .int .i64 gi, .int .i64 sz, .int .i64 tm, .int .i64 ma, .int .i64 mi] ∧
    nm.size ≤ 140737488351232 ∧ lk.size ≤ 140737488351232 ∧ us.size ≤ 140737488351232 ∧ gr.size ≤ 140737488351232 ∧ fr.size ≤ 140737488351232 ∧ (Lit.int .u8 kd).wf = true ∧ (Lit.int .i64 md).wf = true ∧ (Lit.int .i64 ui).wf = true ∧ (Lit.int .i64 gi).wf = true ∧ (Lit.int .i64 sz).wf = true ∧ (Lit.int .i64 tm).wf = true ∧ (Lit.int .i64 ma).wf = true ∧ (Lit.int .i64 mi).wf = true := by
  obtain ⟨cs, rfl, _⟩ := okWide_struct Tryz.underlying36 hv
  obtain ⟨nm, lk, us, gr, fr, kd, md, ui, gi, sz, tm, ma, mi, hcs, hb⟩ := rd_raw (Rd.ofArg h hsz ht hd)
  refine ⟨nm, lk, us, gr, fr, kd, md, ui, gi, sz, tm, ma, mi, ?_, hb⟩
  obtain ⟨l⟩ := cs
  simp [Value.cells] at hcs
  rw [hcs]
end Go.Proofs.YtbofobakphlpbaaGreatDoor
