/-
  Patterns and the ends of names, in plain words: what the reference's recursion says of each. No program, no conditions.
-/
import Derived.Test.YtnnoeckmkjhdbaaDoorGlM
namespace Go.Proofs.YtnnoeckmkjhdbaaDoor
open Go.RowKit Go.PlainAid

theorem parseL_fuel : ∀ (f f' : Nat) (s : ByteArray), s.size < f → s.size < f' → parseL f s = parseL f' s
  | 0, _, _, h, _ => absurd h (Nat.not_lt_zero _)
  | _, 0, _, _, h => absurd h (Nat.not_lt_zero _)
  | f + 1, f' + 1, s, h, h' => by
    by_cases h0 : s.size = 0
    · rw [parseL_end h0, parseL_end h0]
    · cases h1 : nextV s with
      | none => rw [parseL_bad h0 h1, parseL_bad h0 h1]
      | some p =>
        obtain ⟨t, r⟩ := p
        have := (nextV_rest h0 h1).1
        rw [parseL_step h0 h1, parseL_step h0 h1, parseL_fuel f f' r (by omega) (by omega)]
/-- The first token, and the rest's. -/
theorem parseV_cons {s : ByteArray} {l : List Tok} (h0 : s.size ≠ 0) (h : parseV s = some l) : ∃ t r l', nextV s = some (t, r) ∧ parseV r = some l' ∧ l = t :: l' ∧ r.size < s.size ∧ ∃ k, 1 ≤ k ∧ k ≤ s.size ∧ r = suf s k := by
  unfold parseV at h
  cases h1 : nextV s with
  | none =>
    rw [parseL_bad h0 h1] at h
    cases h
  | some p =>
    obtain ⟨t, r⟩ := p
    obtain ⟨hr, hk⟩ := nextV_rest h0 h1
    rw [parseL_step h0 h1, Option.map_eq_some_iff] at h
    obtain ⟨l', h2, h3⟩ := h
    exact ⟨t, r, l', rfl, by unfold parseV; rw [parseL_fuel _ s.size r (by omega) hr]; exact h2, h3.symm, hr, hk⟩
theorem parseV_nil {s : ByteArray} {l : List Tok} (h0 : s.size = 0) (h : parseV s = some l) : l = [] := by
  unfold parseV at h
  rw [parseL_end h0] at h
  injection h with h
  exact h.symm
/-- The end of a name is matched as it is within the name. -/
theorem bwdT_suf (t : Tok) (n : ByteArray) (i : Nat) (f g : Nat → Bool) : ∀ k, k + i ≤ n.size → (∀ j, j ≤ k → f j = g j) → bwdT t (suf n i) f k = bwdT t n g k
  | 0, _, h => by
    unfold bwdT
    rw [h 0 (Nat.le_refl _)]
  | k + 1, hk, h => by
    have e : bt (suf n i) ((suf n i).size - (k + 1)) = bt n (n.size - (k + 1)) := by
      rw [suf_bt (by rw [suf_size]; omega), suf_size]
      congr 1
      omega
    unfold bwdT
    rw [e, h (k + 1) (Nat.le_refl _), h k (by omega), bwdT_suf t n i f g k (by omega) (fun j hj => h j (by omega))]
theorem bwd_suf (n : ByteArray) (i : Nat) : ∀ (l : List Tok) (k : Nat), k + i ≤ n.size → bwd (suf n i) l k = bwd n l k
  | [], _, _ => rfl
  | t :: l, k, hk => bwdT_suf t n i _ _ k hk (fun j hj => bwd_suf n i l j (by omega))
theorem bwdT_succ (t : Tok) (n : ByteArray) (f : Nat → Bool) (k : Nat) : bwdT t n f (k + 1) = if t.many = true then f (k + 1) || ((t.deep || !(bt n (n.size - (k + 1)) == 47)) && bwdT t n f k) else t.set (bt n (n.size - (k + 1))) && f k := rfl
/-- What a pattern's tokens say of a whole text. -/
def allB (l : List Tok) (n : ByteArray) : Bool := bwd n l n.size
theorem allB_nil (n : ByteArray) : allB [] n = decide (n.size = 0) := by
  unfold allB bwd
  cases h : n.size with
  | zero => rfl
  | succ k => rfl
theorem allB_step (t : Tok) (l : List Tok) (n : ByteArray) : allB (t :: l) n =
    if t.many = true then allB l n || (decide (n.size ≠ 0) && (t.deep || !(bt n 0 == 47)) && allB (t :: l) (suf n 1))
    else decide (n.size ≠ 0) && t.set (bt n 0) && allB l (suf n 1) := by
  cases h : n.size with
  | zero =>
    have e1 : allB (t :: l) n = (t.many && allB l n) := by
      unfold allB
      rw [h]
      rfl
    rw [e1]
    cases t.many <;> simp
  | succ k =>
    have hs : (suf n 1).size = k := by rw [suf_size]; omega
    have e1 : allB (t :: l) n = if t.many = true then bwd n l (k + 1) || ((t.deep || !(bt n (n.size - (k + 1)) == 47)) && bwd n (t :: l) k) else t.set (bt n (n.size - (k + 1))) && bwd n l k := by
      have e0 : allB (t :: l) n = bwd n (t :: l) (k + 1) := by unfold allB; rw [h]
      rw [e0]
      exact bwdT_succ t n _ k
    have e2 : allB l n = bwd n l (k + 1) := by unfold allB; rw [h]
    have e3 : allB (t :: l) (suf n 1) = bwd n (t :: l) k := by
      unfold allB
      rw [hs]
      exact bwd_suf n 1 _ k (by omega)
    have e4 : allB l (suf n 1) = bwd n l k := by
      unfold allB
      rw [hs]
      exact bwd_suf n 1 _ k (by omega)
    rw [e1, e2, e3, e4, show n.size - (k + 1) = 0 by omega]
    simp
end Go.Proofs.YtnnoeckmkjhdbaaDoor
