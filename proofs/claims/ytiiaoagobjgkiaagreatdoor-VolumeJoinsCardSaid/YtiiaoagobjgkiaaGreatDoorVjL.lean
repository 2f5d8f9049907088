/-
  The reference's list of headers: rows of 13 cells in a list of the call's own. No conditions.
-/
import Derived.Test.YtiiaoagobjgkiaaGreatDoorHrP
import Derived.Test.YtiiaoagobjgkiaaGreatDoorVjV
import Derived.Laws.AppendOwn
namespace Go.Proofs.YtiiaoagobjgkiaaGreatDoor
open Go.RowKit

/-- The cells of the first headers. -/
def rowsL (X : Nat → Nat → ByteArray) (kd : Nat → Int) (N : Nat → Nat → Int) : Nat → List Value
  | 0 => []
  | k + 1 => rowsL X kd N k ++ (rowRaw (X k) (kd k) (N k)).toList
theorem rowsL_len (X : Nat → Nat → ByteArray) (kd : Nat → Int) (N : Nat → Nat → Int) : ∀ k, (rowsL X kd N k).length = k * 13
  | 0 => rfl
  | k + 1 => by
    show (rowsL X kd N k ++ (rowRaw (X k) (kd k) (N k)).toList).length = _
    rw [List.length_append, rowsL_len X kd N k]
    show k * 13 + 13 = _
    omega
theorem rowsL_at (X : Nat → Nat → ByteArray) (kd : Nat → Int) (N : Nat → Nat → Int) {k i : Nat} (hi : i < 13) : ∀ n, k < n → (rowsL X kd N n)[k * 13 + i]? = (rowRaw (X k) (kd k) (N k)).toList[i]?
  | 0, h => absurd h (Nat.not_lt_zero _)
  | n + 1, h => by
    show (rowsL X kd N n ++ (rowRaw (X n) (kd n) (N n)).toList)[k * 13 + i]? = _
    have hl := rowsL_len X kd N n
    by_cases hk : k < n
    · have h2 : (k + 1) * 13 ≤ n * 13 := Nat.mul_le_mul_right 13 hk
      rw [List.getElem?_append_left (by rw [hl]; omega)]
      exact rowsL_at X kd N hi n hk
    · have : k = n := by omega
      subst this
      rw [List.getElem?_append_right (by rw [hl]; omega), hl]
      congr 1
      omega
/-- The list, and its cells. -/
theorem ownR_open {w : World} {base : Nat} {t : TypeId} {v : Value} {n : Nat} {xs : List Value} (h : w.ownsRow base t 13 v n xs) : ∃ oa cap, v = .slice oa n cap := by
  obtain ⟨_, ⟨hv, hn⟩ | ⟨g, cap, cur, hv, hb, hh, hn, hm, hs, ht⟩⟩ := h
  · exact ⟨none, 0, by rw [hv, hn]⟩
  · exact ⟨_, _, hv⟩
theorem ownR_at {w : World} {base : Nat} {t : TypeId} {oa : Option Addr} {n cap : Nat} {X : Nat → Nat → ByteArray} {kd : Nat → Int} {N : Nat → Nat → Int} (h : w.ownsRow base t 13 (.slice oa n cap) n (rowsL X kd N n)) {k : Nat} (hk : k < n) :
    ∃ g, oa = some ⟨g, 0, none⟩ ∧ n ≤ cap ∧ ∀ i v, (rowRaw (X k) (kd k) (N k))[i]? = some v → w.cell? ⟨g, k * 13 + i, none⟩ = some v := by
  obtain ⟨_, ⟨hv, hn⟩ | ⟨g, cap', cur, hv, hb, hh, hn, hm, hs, ht⟩⟩ := h
  · simp only [Value.slice.injEq] at hv
    omega
  · simp only [Value.slice.injEq] at hv
    obtain ⟨rfl, _, rfl⟩ := hv
    refine ⟨g, rfl, hn, fun i v hi => ?_⟩
    have hi13 : i < 13 := by
      rcases Nat.lt_or_ge i 13 with h | h
      · exact h
      · rw [Array.getElem?_eq_none (by show 13 ≤ i; exact h)] at hi
        cases hi
    have h1 : cur.toList[k * 13 + i]? = some v := by
      have h2 := congrArg (fun l => l[k * 13 + i]?) ht
      try simp only at h2
      have h3 : (k + 1) * 13 ≤ n * 13 := Nat.mul_le_mul_right 13 hk
      rw [List.getElem?_take, if_pos (by omega), rowsL_at X kd N hi13 n hk] at h2
      rw [h2, ← hi]
      simp
    simp only [World.cell?, hh]
    simpa using h1
end Go.Proofs.YtiiaoagobjgkiaaGreatDoor
