/-
  Slices of texts as lists; sameTexts.
-/
import Derived.Test.YtbofobakphlpbaaDoorNum
import Derived.Test.YtbofobakphlpbaaDoorRead
import Derived.Laws.AppendOwn
namespace Go.Proofs.YtbofobakphlpbaaDoor
open Go.RowKit Go.WideShapes

/-- The slice value v holds the texts l. -/
def IsStrs (w : World) (v : Value) (l : List ByteArray) : Prop :=
  ((∃ a c, v = .slice a 0 c) ∧ l = []) ∨ ∃ (b off cap : Nat), v = .slice (some ⟨b, off, none⟩) l.length cap ∧ l.length ≤ cap ∧ cap ≤ maxLen ∧ ∀ k (h : k < l.length), w.cell? ⟨b, off + k, none⟩ = some (.string l[k])

theorem IsStrs.ext {w w' : World} {v : Value} {l : List ByteArray} (h : IsStrs w v l) (hE : Ext w w') : IsStrs w' v l :=
  h.imp id fun ⟨b, off, cap, hv, hn, hm, hc⟩ => ⟨b, off, cap, hv, hn, hm, fun k hk => hE.cell (hc k hk)⟩

/-- The slice, whether it is nil or not. -/
theorem IsStrs.open {w : World} {v : Value} {l : List ByteArray} (h : IsStrs w v l) : ∃ (oa : Option Addr) (cap : Nat), v = .slice oa l.length cap ∧ l.length ≤ maxLen ∧ ∀ k (h : k < l.length), ∃ b off, oa = some ⟨b, off, none⟩ ∧ w.cell? ⟨b, off + k, none⟩ = some (.string l[k]) := by
  rcases h with ⟨⟨a, c, rfl⟩, rfl⟩ | ⟨b, off, cap, rfl, hn, hm, hc⟩
  · exact ⟨a, c, rfl, by simp [maxLen], fun k h => by simp at h⟩
  · exact ⟨some ⟨b, off, none⟩, cap, rfl, by omega, fun k h => ⟨b, off, rfl, hc k h⟩⟩

/-- Without its first text. -/
theorem IsStrs.tail {w : World} {b off cap : Nat} {l : List ByteArray} (h : IsStrs w (.slice (some ⟨b, off, none⟩) l.length cap) l) (hne : 0 < l.length) :
    l.length ≤ cap ∧ ∃ A : Nat, (if cap = 1 then some (⟨b, off, none⟩ : Addr) else some ⟨b, off + 1, none⟩) = some ⟨b, A, none⟩ ∧ IsStrs w (.slice (some ⟨b, A, none⟩) (l.length - 1) (cap - 1)) l.tail := by
  rcases h with ⟨⟨_, _, e⟩, rfl⟩ | ⟨_, _, _, e, hn, hm, hc⟩
  · simp at hne
  · cases e
    refine ⟨hn, ?_⟩
    by_cases hcp : cap = 1
    · refine ⟨off, if_pos hcp, .inl ⟨⟨some ⟨b, off, none⟩, cap - 1, ?_⟩, ?_⟩⟩
      · congr 1; omega
      · rw [← List.length_eq_zero_iff]; simp; omega
    · refine ⟨off + 1, if_neg hcp, .inr ⟨b, off + 1, cap - 1, by simp, by simp; omega, by omega, fun k hk => ?_⟩⟩
      have hk' : k + 1 < l.length := by simp at hk; omega
      have := hc (k + 1) hk'
      rw [List.getElem_tail, ← this]
      congr 2
      omega

theorem IsStrs.ofOwns {w : World} {base : Nat} {v : Value} {l : List ByteArray} (h : w.ownsRow base 9 1 v l.length (l.map Value.string)) : IsStrs w v l := by
  obtain ⟨_, ⟨hv, hn⟩ | ⟨g, cap, cur, hv, hb, hh, hn, hm, hs, ht⟩⟩ := h
  · exact .inl ⟨⟨none, 0, hv⟩, by simpa using hn⟩
  · refine .inr ⟨g, 0, cap, hv, hn, hm, fun k hk => ?_⟩
    have h1 : cur.toList[k]? = some (.string l[k]) := by
      have : (cur.toList.take (l.length * 1))[k]? = (l.map Value.string)[k]? := by rw [ht]
      rw [List.getElem?_take, if_pos (by omega)] at this
      rw [this]; simp [hk]
    simp only [World.cell?, hh, Nat.zero_add]
    simpa using h1

end Go.Proofs.YtbofobakphlpbaaDoor
