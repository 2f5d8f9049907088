/-
  Arguments of type api.Pair and []api.Pair, opened.
-/
import Derived.Test.YtnnoeckmkjhdbaaNum
import Derived.Test.YtnnoeckmkjhdbaaRead
namespace Go.Proofs.Ytnnoeckmkjhdbaa
open Go.ChangeShapes Go.WideShapes Go.ChangeAt Go.RowKit Go.ChangeMaps

theorem pcells_pair : Try.prog.cellsOf 28 = 2 := by kernel_rfl
theorem pbytes_pair : Try.prog.bytesOf 28 = 32 := by kernel_rfl
theorem pcells_string : Try.prog.cellsOf 9 = 1 := by kernel_rfl

set_option maxRecDepth 100000 in
theorem rd_pair {W : World} {cs : List Value} (h : Rd W 28 cs) : ∃ k v : ByteArray, cs = [.string k, .string v] ∧ k.size ≤ 140737488351232 ∧ v.size ≤ 140737488351232 := by
  obtain ⟨hl, hg⟩ := h.struct Try.underlying28
  rw [pcells_pair] at hl
  match cs, hl with
  | [c0, c1], _ =>
    have g0 := hg 0 _ rfl
    have g1 := hg 1 _ rfl
    simp [pcells_string] at g0 g1
    obtain ⟨n0, e0, b0⟩ := g0.string Try.underlying9
    obtain ⟨n1, e1, b1⟩ := g1.string Try.underlying9
    simp at e0 e1
    subst e0 e1
    exact ⟨_, _, rfl, b0, b1⟩

set_option maxRecDepth 100000 in
theorem arg_pair {H : Type} {enc : TypeId × Value → H} {W : World} {base : Nat} {v : Value} {d : DataW H} {p : List MemPlace} {ts : List TypeId} {ds : List (DataW H)} {j : Nat}
    (hv : Value.okWide Try.prog W .any base 28 v) (h : DataW.Trod enc Try.prog W 0 (fun _ => true) true 28 v d p)
    (hsz : (DataW.weightsEach Try.prog ts ds).all (· ≤ reachBytes) = true) (ht : ts[j]? = some 28) (hd : ds[j]? = some d) :
    ∃ (k x : ByteArray), v = .agg #[.string k, .string x] ∧ k.size ≤ 140737488351232 ∧ x.size ≤ 140737488351232 := by
  obtain ⟨cs, rfl, _⟩ := okWide_struct Try.underlying28 hv
  obtain ⟨k, x, hcs, hb⟩ := rd_pair (Rd.ofArg h hsz ht hd)
  refine ⟨k, x, ?_, hb⟩
  obtain ⟨l⟩ := cs
  simp [Value.cells] at hcs
  rw [hcs]

/-- The slice value v holds n pairs. -/
def IsPairs (w : World) (v : Value) (n : Nat) (K X : Nat → ByteArray) : Prop :=
  ((∃ a c, v = .slice a 0 c) ∧ n = 0) ∨ ∃ (b off cap : Nat), v = .slice (some ⟨b, off, none⟩) n cap ∧ n ≤ 4398046511100 ∧
    ∀ k, k < n → (K k).size ≤ 140737488351232 ∧ (X k).size ≤ 140737488351232 ∧ w.cell? ⟨b, off + k * 2, none⟩ = some (.string (K k)) ∧ w.cell? ⟨b, off + k * 2 + 1, none⟩ = some (.string (X k))
theorem IsPairs.ext {w w' : World} {v : Value} {n : Nat} {K X : Nat → ByteArray} (h : IsPairs w v n K X) (hE : Ext w w') : IsPairs w' v n K X :=
  h.imp id fun ⟨b, off, cap, hv, hn, hc⟩ => ⟨b, off, cap, hv, hn, fun k hk => ⟨(hc k hk).1, (hc k hk).2.1, hE.cell (hc k hk).2.2.1, hE.cell (hc k hk).2.2.2⟩⟩
theorem addp_plain (b off i : Nat) : (⟨b, off, none⟩ : Addr).add i = ⟨b, off + i, none⟩ := by
  unfold Addr.add
  split <;> simp_all

set_option maxRecDepth 100000 in
theorem arg_pairs {H : Type} {enc : TypeId × Value → H} {W : World} {base : Nat} {v : Value} {d : DataW H} {p : List MemPlace} {ts : List TypeId} {ds : List (DataW H)} {j : Nat}
    (hv : Value.okWide Try.prog W .any base 22 v) (h : DataW.Trod enc Try.prog W 0 (fun _ => true) true 22 v d p)
    (hsz : (DataW.weightsEach Try.prog ts ds).all (· ≤ reachBytes) = true) (ht : ts[j]? = some 22) (hd : ds[j]? = some d) :
    ∃ (n : Nat) (K X : Nat → ByteArray), IsPairs W v n K X := by
  obtain ⟨a, len, cap, rfl⟩ := okWide_slice Try.underlying22 hv
  rcases (Rd.ofArg h hsz ht hd).slice Try.underlying22 with h0 | ⟨x, l, c, hcs, hlc, hc, hb, hi⟩
  · simp [Value.cells] at h0
    obtain ⟨rfl, rfl, rfl⟩ := h0
    exact ⟨0, fun _ => ⟨#[]⟩, fun _ => ⟨#[]⟩, .inl ⟨⟨_, _, rfl⟩, rfl⟩⟩
  · simp [Value.cells] at hcs
    obtain ⟨rfl, rfl, rfl⟩ := hcs
    rw [pcells_pair] at hi
    rw [pbytes_pair] at hb
    have hq : ∀ i : Nat, ∃ q : ByteArray × ByteArray, i < len → q.1.size ≤ 140737488351232 ∧ q.2.size ≤ 140737488351232 ∧ W.cell? (x.add (i * 2)) = some (.string q.1) ∧ W.cell? (x.add (i * 2 + 1)) = some (.string q.2) := fun i => by
      by_cases hil : i < len
      · obtain ⟨ecs, _, hat, hr⟩ := hi i hil
        obtain ⟨k, y, rfl, b0, b1⟩ := rd_pair hr
        exact ⟨(k, y), fun _ => ⟨b0, b1, by simpa using hat 0 (by omega), by simpa using hat 1 (by omega)⟩⟩
      · exact ⟨(⟨#[]⟩, ⟨#[]⟩), fun h => absurd h hil⟩
    obtain ⟨f, hf⟩ := Classical.axiomOfChoice hq
    obtain ⟨b, off, spot⟩ := x
    by_cases hl0 : len = 0
    · subst hl0
      exact ⟨0, fun _ => ⟨#[]⟩, fun _ => ⟨#[]⟩, .inl ⟨⟨_, _, rfl⟩, rfl⟩⟩
    · have hspot : spot = none := by simpa [Addr.add] using World.cell?_spot (hf 0 (by omega)).2.2.1
      subst hspot
      exact ⟨len, fun i => (f i).1, fun i => (f i).2, .inr ⟨b, off, cap, rfl, by omega, fun k hk => by
        have := hf k hk
        rw [addp_plain, addp_plain, ← Nat.add_assoc] at this
        exact this⟩⟩
end Go.Proofs.Ytnnoeckmkjhdbaa
