/-
  Slices of ints as lists.
-/
import Derived.Test.YtedcibjnnihhfaaDoorNum
import Derived.Test.YtedcibjnnihhfaaDoorRead
import Derived.Laws.AppendOwn
namespace Go.Proofs.YtedcibjnnihhfaaDoor
open Go.RowKit Go.WideShapes

/-- The slice value v holds the numbers l. -/
def IsInts (w : World) (v : Value) (l : List Int) : Prop :=
  ((∃ a c, v = .slice a 0 c) ∧ l = []) ∨ ∃ (b off cap : Nat), v = .slice (some ⟨b, off, none⟩) l.length cap ∧ l.length ≤ cap ∧ cap ≤ maxLen ∧ ∀ k (h : k < l.length), w.cell? ⟨b, off + k, none⟩ = some (.int .i64 l[k])
theorem IsInts.ext {w w' : World} {v : Value} {l : List Int} (h : IsInts w v l) (hE : Ext w w') : IsInts w' v l :=
  h.imp id fun ⟨b, off, cap, hv, hn, hm, hc⟩ => ⟨b, off, cap, hv, hn, hm, fun k hk => hE.cell (hc k hk)⟩
theorem IsInts.open {w : World} {v : Value} {l : List Int} (h : IsInts w v l) : ∃ (oa : Option Addr) (cap : Nat), v = .slice oa l.length cap ∧ l.length ≤ maxLen ∧ ∀ k (h : k < l.length), ∃ b off, oa = some ⟨b, off, none⟩ ∧ w.cell? ⟨b, off + k, none⟩ = some (.int .i64 l[k]) := by
  rcases h with ⟨⟨a, c, rfl⟩, rfl⟩ | ⟨b, off, cap, rfl, hn, hm, hc⟩
  · exact ⟨a, c, rfl, by simp [maxLen], fun k h => by simp at h⟩
  · exact ⟨some ⟨b, off, none⟩, cap, rfl, by omega, fun k h => ⟨b, off, rfl, hc k h⟩⟩
theorem IsInts.ofOwns {w : World} {base : Nat} {v : Value} {l : List Int} (h : w.ownsRow base 3 1 v l.length (l.map (Value.int .i64))) : IsInts w v l := by
  obtain ⟨_, ⟨hv, hn⟩ | ⟨g, cap, cur, hv, hb, hh, hn, hm, hs, ht⟩⟩ := h
  · exact .inl ⟨⟨none, 0, hv⟩, by simpa using hn⟩
  · refine .inr ⟨g, 0, cap, hv, hn, hm, fun k hk => ?_⟩
    have h1 : cur.toList[k]? = some (.int .i64 l[k]) := by
      have : (cur.toList.take (l.length * 1))[k]? = (l.map (Value.int .i64))[k]? := by rw [ht]
      rw [List.getElem?_take, if_pos (by omega)] at this
      rw [this]; simp [hk]
    simp only [World.cell?, hh, Nat.zero_add]
    simpa using h1
end Go.Proofs.YtedcibjnnihhfaaDoor
