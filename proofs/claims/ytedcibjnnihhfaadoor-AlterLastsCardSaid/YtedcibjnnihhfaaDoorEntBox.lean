/-
  A member in a block of its own; slices of members, their capacity.
-/
import Derived.Test.YtedcibjnnihhfaaDoorEnt
import Derived.Test.YtedcibjnnihhfaaDoorEntArg
namespace Go.Proofs.YtedcibjnnihhfaaDoor
open Go.RowKit Go.WideShapes

/-- A member's cells lie in block g. -/
def EntAt (w : World) (g : Nat) (e : Ent) : Prop := w.cell? ⟨g, 0, none⟩ = some (.string e.nm) ∧ w.cell? ⟨g, 1, none⟩ = some (.int .u8 e.kd) ∧ w.cell? ⟨g, 2, none⟩ = some (.int .i64 e.md) ∧ w.cell? ⟨g, 3, none⟩ = some (.int .i64 e.ui) ∧ w.cell? ⟨g, 4, none⟩ = some (.int .i64 e.gi) ∧ w.cell? ⟨g, 5, none⟩ = some (.int .i64 e.sz) ∧ w.cell? ⟨g, 6, none⟩ = some (.int .i64 e.ts) ∧ w.cell? ⟨g, 7, none⟩ = some (.int .i64 e.tn) ∧ w.cell? ⟨g, 8, none⟩ = some (.string e.lk) ∧ w.cell? ⟨g, 9, none⟩ = some (.string e.us) ∧ w.cell? ⟨g, 10, none⟩ = some (.string e.gr) ∧ w.cell? ⟨g, 11, none⟩ = some (.int .i64 e.ma) ∧ w.cell? ⟨g, 12, none⟩ = some (.int .i64 e.mi) ∧ w.cell? ⟨g, 13, none⟩ = some (.string e.dt) ∧ w.cell? ⟨g, 14, none⟩ = some (.slice e.pa e.pn e.pc)
theorem EntAt.ext {w w' : World} {g : Nat} {e : Ent} (h : EntAt w g e) (hE : Ext w w') : EntAt w' g e := by
  obtain ⟨g0, g1, g2, g3, g4, g5, g6, g7, g8, g9, g10, g11, g12, g13, g14⟩ := h
  exact ⟨hE.cell g0, hE.cell g1, hE.cell g2, hE.cell g3, hE.cell g4, hE.cell g5, hE.cell g6, hE.cell g7, hE.cell g8, hE.cell g9, hE.cell g10, hE.cell g11, hE.cell g12, hE.cell g13, hE.cell g14⟩
theorem EntAt.lt {w : World} {g : Nat} {e : Ent} (h : EntAt w g e) : g < w.heap.size := World.block_lt_of_cell? w _ h.1
theorem ent_new (e : Ent) (w : World) : EntAt (w.alloc (.cells #[.string e.nm, .int .u8 e.kd, .int .i64 e.md, .int .i64 e.ui, .int .i64 e.gi, .int .i64 e.sz, .int .i64 e.ts, .int .i64 e.tn, .string e.lk, .string e.us, .string e.gr, .int .i64 e.ma, .int .i64 e.mi, .string e.dt, .slice e.pa e.pn e.pc] 94)) w.heap.size e := by
  refine ⟨?_, ?_, ?_, ?_, ?_, ?_, ?_, ?_, ?_, ?_, ?_, ?_, ?_, ?_, ?_⟩ <;> simp
set_option maxRecDepth 100000 in
theorem arg_cap {H : Type} {enc : TypeId × Value → H} {W : World} {base : Nat} {v : Value} {d : DataW H} {p : List MemPlace} {ts : List TypeId} {ds : List (DataW H)} {j : Nat}
    (hv : Value.okWide Tryd.prog W .any base 32 v) (h : DataW.Trod enc Tryd.prog W 0 (fun _ => true) true 32 v d p)
    (hsz : (DataW.weightsEach Tryd.prog ts ds).all (· ≤ reachBytes) = true) (ht : ts[j]? = some 32) (hd : ds[j]? = some d) :
    ∃ a n c, v = .slice a n c ∧ n ≤ c ∧ c ≤ maxLen := by
  obtain ⟨a, len, cap, rfl⟩ := okWide_slice Tryd.underlying32 hv
  rcases (Rd.ofArg h hsz ht hd).slice Tryd.underlying32 with h0 | ⟨x, l, c, hcs, hlc, hc, hb, hi⟩
  · simp [Value.cells] at h0
    obtain ⟨rfl, rfl, rfl⟩ := h0
    exact ⟨_, _, _, rfl, Nat.le_refl _, by simp [maxLen]⟩
  · simp [Value.cells] at hcs
    obtain ⟨rfl, rfl, rfl⟩ := hcs
    exact ⟨_, _, _, rfl, hlc, hc⟩
end Go.Proofs.YtedcibjnnihhfaaDoor
