/-
  An argument of type []api.Piece, opened.
-/
import Derived.Test.YtbofobakphlpbaaDoorHole
namespace Go.Proofs.YtbofobakphlpbaaDoor
open Go.ChangeShapes Go.WideShapes Go.ChangeAt Go.RowKit

theorem cells_piece : Tryd.prog.cellsOf 261 = 2 := by kernel_rfl
theorem bytes_piece : Tryd.prog.bytesOf 261 = 16 := by kernel_rfl
theorem cells_int1 : Tryd.prog.cellsOf 3 = 1 := by kernel_rfl

theorem add_plain (b off i : Nat) : (⟨b, off, none⟩ : Addr).add i = ⟨b, off + i, none⟩ := by
  unfold Addr.add
  split <;> simp_all

set_option maxRecDepth 100000 in
theorem rd_piece {W : World} {cs : List Value} (h : Rd W 261 cs) : ∃ a s : Int, cs = [.int .i64 a, .int .i64 s] := by
  obtain ⟨hl, hg⟩ := h.struct Tryd.underlying261
  rw [cells_piece] at hl
  match cs, hl with
  | [c0, c1], _ =>
    have g0 := hg 0 _ rfl
    have g1 := hg 1 _ rfl
    simp [cells_int1] at g0 g1
    obtain ⟨n0, e0, _⟩ := g0.int Tryd.underlying3
    obtain ⟨n1, e1, _⟩ := g1.int Tryd.underlying3
    simp at e0 e1
    subst e0 e1
    exact ⟨_, _, rfl⟩

set_option maxRecDepth 100000 in
theorem arg_pieces {H : Type} {enc : TypeId × Value → H} {W : World} {base : Nat} {v : Value} {d : DataW H} {p : List MemPlace} {ts : List TypeId} {ds : List (DataW H)} {j : Nat}
    (hv : Value.okWide Tryd.prog W .any base 38 v) (h : DataW.Trod enc Tryd.prog W 0 (fun _ => true) true 38 v d p)
    (hsz : (DataW.weightsEach Tryd.prog ts ds).all (· ≤ reachBytes) = true) (ht : ts[j]? = some 38) (hd : ds[j]? = some d) :
    ∃ (n : Nat) (A S : Nat → Int), IsPieces W v n A S := by
  obtain ⟨a, len, cap, rfl⟩ := okWide_slice Tryd.underlying38 hv
  rcases (Rd.ofArg h hsz ht hd).slice Tryd.underlying38 with h0 | ⟨x, l, c, hcs, hlc, hc, hb, hi⟩
  · simp [Value.cells] at h0
    obtain ⟨rfl, rfl, rfl⟩ := h0
    exact ⟨0, fun _ => 0, fun _ => 0, .inl ⟨⟨_, _, rfl⟩, rfl⟩⟩
  · simp [Value.cells] at hcs
    obtain ⟨rfl, rfl, rfl⟩ := hcs
    rw [cells_piece] at hi
    rw [bytes_piece] at hb
    have hq : ∀ i : Nat, ∃ q : Int × Int, i < len → W.cell? (x.add (i * 2)) = some (.int .i64 q.1) ∧ W.cell? (x.add (i * 2 + 1)) = some (.int .i64 q.2) := fun i => by
      by_cases hil : i < len
      · obtain ⟨ecs, _, hat, hr⟩ := hi i hil
        obtain ⟨a, s, rfl⟩ := rd_piece hr
        exact ⟨(a, s), fun _ => ⟨by simpa using hat 0 (by omega), by simpa using hat 1 (by omega)⟩⟩
      · exact ⟨(0, 0), fun h => absurd h hil⟩
    obtain ⟨f, hf⟩ := Classical.axiomOfChoice hq
    obtain ⟨b, off, spot⟩ := x
    by_cases hl0 : len = 0
    · subst hl0
      exact ⟨0, fun _ => 0, fun _ => 0, .inl ⟨⟨_, _, rfl⟩, rfl⟩⟩
    · have hspot : spot = none := by simpa [Addr.add] using World.cell?_spot (hf 0 (by omega)).1
      subst hspot
      exact ⟨len, fun i => (f i).1, fun i => (f i).2, .inr ⟨b, off, cap, rfl, by omega, fun k hk => by
        have := hf k hk
        rw [add_plain, add_plain, ← Nat.add_assoc] at this
        exact this⟩⟩

end Go.Proofs.YtbofobakphlpbaaDoor
