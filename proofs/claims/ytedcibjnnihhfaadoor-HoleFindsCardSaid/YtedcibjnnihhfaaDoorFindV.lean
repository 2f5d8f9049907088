/-
  The map of a text's data: plain; byte by byte and block by block.
-/
import Derived.Test.YtedcibjnnihhfaaDoorNum
namespace Go.Proofs.YtedcibjnnihhfaaDoor

def lastD (d : Nat → Bool) : Nat → Bool
  | 0 => false
  | q + 1 => d q
/-- The last piece grows. -/
def growL (l : List (Int × Int)) (m : Int) : List (Int × Int) := match l.getLast? with
  | none => []
  | some (a, s) => l.dropLast ++ [(a, s + m)]
theorem growL_snoc (l : List (Int × Int)) (a s m : Int) : growL (l ++ [(a, s)]) m = l ++ [(a, s + m)] := by
  unfold growL
  simp
/-- The pieces of the first bytes. -/
def findL (d : Nat → Bool) : Nat → List (Int × Int)
  | 0 => []
  | p + 1 => if d p then (if lastD d p then growL (findL d p) 1 else findL d p ++ [((p : Int), 1)]) else findL d p

theorem findL_succ (d : Nat → Bool) (p : Nat) : findL d (p + 1) = if d p then (if lastD d p then growL (findL d p) 1 else findL d p ++ [((p : Int), 1)]) else findL d p := rfl

theorem findL_inv (d : Nat → Bool) : ∀ p, (findL d p = [] ∧ lastD d p = false) ∨ ∃ (l : List (Int × Int)) (a s : Int), findL d p = l ++ [(a, s)] ∧ a + s ≤ p ∧ (a + s = p ↔ lastD d p = true) ∧ 0 ≤ a ∧ 1 ≤ s
  | 0 => .inl ⟨rfl, rfl⟩
  | p + 1 => by
    have ih := findL_inv d p
    simp only [findL]
    show (_ ∧ d p = false) ∨ _
    cases hd : d p with
    | true =>
      simp only [if_true]
      right
      rcases ih with ⟨h1, h2⟩ | ⟨l, a, s, h1, h2, h3, h4, h5⟩
      · rw [h1, h2]
        exact ⟨[], p, 1, by simp, by omega, by simp [lastD, hd], by omega, by omega⟩
      · rw [h1]
        cases hl : lastD d p with
        | true =>
          have := h3.2 hl
          simp only [if_true]
          rw [growL_snoc]
          exact ⟨l, a, s + 1, rfl, by omega, by simp only [lastD, hd, iff_true]; omega, h4, by omega⟩
        | false =>
          exact ⟨l ++ [(a, s)], p, 1, by simp, by omega, by simp [lastD, hd], by omega, by omega⟩
    | false =>
      simp only [Bool.false_eq_true, if_false]
      rcases ih with ⟨h1, h2⟩ | ⟨l, a, s, h1, h2, h3, h4, h5⟩
      · exact .inl ⟨h1, trivial⟩
      · exact .inr ⟨l, a, s, h1, by omega, by simp only [lastD, hd, Bool.false_eq_true, iff_false]; omega, h4, h5⟩

/-- Bytes without data. -/
theorem findL_none (d : Nat → Bool) (p : Nat) : ∀ m, (∀ j, j < m → d (p + j) = false) → findL d (p + m) = findL d p
  | 0, _ => rfl
  | m + 1, h => by
    have ih := findL_none d p m fun j hj => h j (by omega)
    rw [← Nat.add_assoc]
    simp only [findL, h m (by omega), Bool.false_eq_true, if_false, ih]

/-- A block of bytes with data. -/
theorem findL_some (d : Nat → Bool) (p : Nat) : ∀ m, (∀ j, j < m + 1 → d (p + j) = true) →
    findL d (p + (m + 1)) = if lastD d p then growL (findL d p) ((m : Int) + 1) else findL d p ++ [((p : Int), (m : Int) + 1)]
  | 0, h => by
    have := h 0 (by omega)
    simp only [Nat.add_zero] at this
    simp [findL, this]
  | m + 1, h => by
    have ih := findL_some d p m fun j hj => h j (by omega)
    have hd := h (m + 1) (by omega)
    have hl : lastD d (p + (m + 1)) = true := h m (by omega)
    rw [show p + (m + 1 + 1) = p + (m + 1) + 1 by omega]
    rw [findL_succ, hd, hl, ih]
    simp only [if_true]
    rcases findL_inv d p with ⟨h1, h2⟩ | ⟨l, a, s, h1, h2, h3, h4, h5⟩
    · rw [h2, h1]
      have := growL_snoc [] (p : Int) ((m : Int) + 1) 1
      simp only [List.nil_append] at this
      simp [this]
    · rw [h1]
      cases lastD d p with
      | true => simp only [if_true]; rw [growL_snoc, growL_snoc, growL_snoc]; simp; omega
      | false => simp only [Bool.false_eq_true, if_false]; rw [growL_snoc]; simp

theorem findL_len (d : Nat → Bool) : ∀ p, (findL d p).length ≤ p
  | 0 => Nat.le_refl _
  | p + 1 => by
    have ih := findL_len d p
    simp only [findL]
    split
    · split
      · rcases findL_inv d p with ⟨h1, h2⟩ | ⟨l, a, s, h1, h2, h3, h4, h5⟩
        · rw [h1]; simp [growL]
        · rw [h1] at ih ⊢; rw [growL_snoc]; simp at ih ⊢; omega
      · simp; omega
    · omega
end Go.Proofs.YtedcibjnnihhfaaDoor
