/-
  Patterns and names, in plain words: places that can be reached token by token, and what is matched from a place on. No program, no conditions.
-/
import Derived.Test.YtnnoeckmkjhdbaaDoorGlV
namespace Go.Proofs.YtnnoeckmkjhdbaaDoor
open Go.RowKit Go.PlainAid

/-- Which places are reached behind a token. -/
def stepF (t : Tok) (n : ByteArray) (r : Nat → Bool) : Nat → Bool
  | 0 => t.many && r 0
  | i + 1 => if t.many = true then r (i + 1) || (stepF t n r i && (t.deep || !(bt n i == 47))) else r i && t.set (bt n i)
def reachV (l : List Tok) (n : ByteArray) (r : Nat → Bool) : Nat → Bool := l.foldl (fun r t => stepF t n r) r
/-- What is matched from the place k ahead of the end. -/
def bwdT (t : Tok) (n : ByteArray) (f : Nat → Bool) : Nat → Bool
  | 0 => t.many && f 0
  | k + 1 => if t.many = true then f (k + 1) || ((t.deep || !(bt n (n.size - (k + 1)) == 47)) && bwdT t n f k) else t.set (bt n (n.size - (k + 1))) && f k
def bwd (n : ByteArray) : List Tok → Nat → Bool
  | [] => fun k => k == 0
  | t :: l => bwdT t n (bwd n l)
/-- From any place on. -/
theorem step_to {t : Tok} {n : ByteArray} {r : Nat → Bool} (hm : t.many = true) {i : Nat} (hi : r i = true) : stepF t n r i = true := by
  cases i with
  | zero => simp [stepF, hm, hi]
  | succ i => simp [stepF, hm, hi]
theorem bwd_of {t : Tok} {n : ByteArray} {f : Nat → Bool} (hm : t.many = true) {k : Nat} (hk : f k = true) : bwdT t n f k = true := by
  cases k with
  | zero => simp [bwdT, hm, hk]
  | succ i => simp [bwdT, hm, hk]
/-- Places of a name that lie i from its start and k from its end. -/
theorem meet_fwd {t : Tok} {n : ByteArray} {r f : Nat → Bool} : ∀ (k i : Nat), i + k = n.size → r i = true → bwdT t n f k = true → ∃ j m, j + m = n.size ∧ stepF t n r j = true ∧ f m = true
  | 0, i, h, hr, hb => by
    unfold bwdT at hb
    rw [Bool.and_eq_true] at hb
    exact ⟨i, 0, h, step_to hb.1 hr, hb.2⟩
  | k + 1, i, h, hr, hb => by
    unfold bwdT at hb
    have e : n.size - (k + 1) = i := by omega
    rw [e] at hb
    by_cases hm : t.many = true
    · rw [if_pos hm, Bool.or_eq_true, Bool.and_eq_true] at hb
      rcases hb with h1 | ⟨h1, h2⟩
      · exact ⟨i, k + 1, h, step_to hm hr, h1⟩
      · -- walk on with all places reached behind the token
        have key : ∀ (m j : Nat), j + m = n.size → stepF t n r j = true → bwdT t n f m = true → ∃ j' m', j' + m' = n.size ∧ stepF t n r j' = true ∧ f m' = true := by
          intro m
          induction m with
          | zero =>
            intro j hj hs hb
            unfold bwdT at hb
            rw [Bool.and_eq_true] at hb
            exact ⟨j, 0, hj, hs, hb.2⟩
          | succ m ih =>
            intro j hj hs hb
            unfold bwdT at hb
            have e : n.size - (m + 1) = j := by omega
            rw [e, if_pos hm, Bool.or_eq_true, Bool.and_eq_true] at hb
            rcases hb with h3 | ⟨h3, h4⟩
            · exact ⟨j, m + 1, hj, hs, h3⟩
            · refine ih (j + 1) (by omega) ?_ h4
              simp only [stepF]
              rw [if_pos hm, hs, h3]
              simp
        refine key k (i + 1) (by omega) ?_ h2
        simp only [stepF]
        rw [if_pos hm, step_to hm hr, h1]
        simp
    · rw [if_neg hm, Bool.and_eq_true] at hb
      refine ⟨i + 1, k, by omega, ?_, hb.2⟩
      simp only [stepF]
      rw [if_neg hm, hr, hb.1]
      rfl
theorem meet_bwd {t : Tok} {n : ByteArray} {r f : Nat → Bool} : ∀ (j m : Nat), j + m = n.size → stepF t n r j = true → bwdT t n f m = true ∨ t.many = false → f m = true ∨ t.many = true → ∃ i k, i + k = n.size ∧ r i = true ∧ bwdT t n f k = true
  | 0, m, h, hs, hb, hf => by
    unfold stepF at hs
    rw [Bool.and_eq_true] at hs
    refine ⟨0, m, h, hs.2, ?_⟩
    rcases hb with h1 | h1
    · exact h1
    · rw [hs.1] at h1
      cases h1
  | j + 1, m, h, hs, hb, hf => by
    unfold stepF at hs
    by_cases hm : t.many = true
    · have hb' : bwdT t n f m = true := by
        rcases hb with h1 | h1
        · exact h1
        · rw [hm] at h1
          cases h1
      rw [if_pos hm, Bool.or_eq_true, Bool.and_eq_true] at hs
      rcases hs with h1 | ⟨h1, h2⟩
      · exact ⟨j + 1, m, h, h1, hb'⟩
      · refine meet_bwd j (m + 1) (by omega) h1 (.inl ?_) (.inr hm)
        unfold bwdT
        have e : n.size - (m + 1) = j := by omega
        rw [if_pos hm, e, h2, hb']
        simp
    · rw [if_neg hm, Bool.and_eq_true] at hs
      refine ⟨j, m + 1, by omega, hs.1, ?_⟩
      unfold bwdT
      have e : n.size - (m + 1) = j := by omega
      rw [if_neg hm, e, hs.2]
      rcases hf with h1 | h1
      · rw [h1]; rfl
      · exact absurd h1 hm
theorem meet_iff (n : ByteArray) : ∀ (l : List Tok) (r : Nat → Bool), (∃ i k, i + k = n.size ∧ r i = true ∧ bwd n l k = true) ↔ ∃ i k, i + k = n.size ∧ reachV l n r i = true ∧ (k == 0) = true
  | [], r => Iff.rfl
  | t :: l, r => by
    show (∃ i k, i + k = n.size ∧ r i = true ∧ bwdT t n (bwd n l) k = true) ↔ ∃ i k, i + k = n.size ∧ reachV l n (stepF t n r) i = true ∧ (k == 0) = true
    rw [← meet_iff n l (stepF t n r)]
    constructor
    · rintro ⟨i, k, h, hr, hb⟩
      exact meet_fwd k i h hr hb
    · rintro ⟨j, m, h, hs, hf⟩
      refine meet_bwd j m h hs ?_ (.inl hf)
      cases hm : t.many with
      | true => exact .inl (bwd_of hm hf)
      | false => exact .inr rfl
/-- From the start on: what is reached at the end. -/
theorem match_same (l : List Tok) (n : ByteArray) : reachV l n (fun i => i == 0) n.size = bwd n l n.size := by
  have h := meet_iff n l (fun i => i == 0)
  cases hb : bwd n l n.size with
  | true =>
    obtain ⟨i, k, h1, h2, h3⟩ := h.1 ⟨0, n.size, by omega, rfl, hb⟩
    have : k = 0 := by simpa using h3
    have e : i = n.size := by omega
    rw [e] at h2
    exact h2
  | false =>
    cases hr : reachV l n (fun i => i == 0) n.size with
    | false => rfl
    | true =>
      obtain ⟨i, k, h1, h2, h3⟩ := h.2 ⟨n.size, 0, by omega, hr, rfl⟩
      have : i = 0 := by simpa using h2
      have e : k = n.size := by omega
      rw [e, hb] at h3
      cases h3
end Go.Proofs.YtnnoeckmkjhdbaaDoor
