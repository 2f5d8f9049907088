/-
  Volumes joined, in plain words. No program, no conditions.
-/
import Derived.Test.YtiiaoagobjgkiaaGreatDoorStV
namespace Go.Proofs.YtiiaoagobjgkiaaGreatDoor
open Go.RowKit

/-- Different numbers below U: no more than U. -/
theorem pig : ∀ (U n : Nat) (f : Nat → Nat), (∀ i, i < n → f i < U) → (∀ i j, i < n → j < n → f i = f j → i = j) → n ≤ U
  | 0, n, f, h, _ => by
    rcases Nat.eq_zero_or_pos n with h0 | h0
    · omega
    · exact absurd (h 0 h0) (Nat.not_lt_zero _)
  | U + 1, 0, _, _, _ => Nat.zero_le _
  | U + 1, m + 1, f, h, hi => by
    by_cases hx : ∃ i, i < m + 1 ∧ f i = U
    · obtain ⟨a, ha, hfa⟩ := hx
      have h1 := pig U m (fun i => if i = a then f m else f i) (fun i him => by
        try dsimp only
        split
        · rename_i e
          have h2 := h m (by omega)
          have h3 : f m ≠ U := fun e2 => by
            have := hi m a (by omega) ha (e2.trans hfa.symm)
            omega
          omega
        · rename_i e
          have h2 := h i (by omega)
          have h3 : f i ≠ U := fun e2 => e (hi i a (by omega) ha (e2.trans hfa.symm))
          omega) (fun i j him hjm he => by
        try dsimp only at he
        split at he
        · split at he
          · omega
          · have := hi m j (by omega) (by omega) he
            omega
        · split at he
          · have := hi i m (by omega) (by omega) he
            omega
          · exact hi i j (by omega) (by omega) he)
      omega
    · have h1 := pig U (m + 1) f (fun i him => by
        have h2 := h i him
        have h3 : f i ≠ U := fun e => hx ⟨i, him, e⟩
        omega) hi
      omega
/-- As many as U: each is met. -/
theorem pig_all {U n : Nat} {f : Nat → Nat} (h : ∀ i, i < n → f i < U) (hi : ∀ i j, i < n → j < n → f i = f j → i = j) (hn : n = U) (k : Nat) (hk : k < U) : ∃ i, i < n ∧ f i = k := by
  refine Classical.byContradiction fun hx => ?_
  have h1 := pig U (n + 1) (fun i => if i = n then k else f i) (fun i him => by
    try dsimp only
    split
    · exact hk
    · exact h i (by omega)) (fun i j him hjm he => by
    try dsimp only at he
    split at he
    · split at he
      · omega
      · exact absurd ⟨j, by omega, he.symm⟩ hx
    · split at he
      · exact absurd ⟨i, by omega, he⟩ hx
      · exact hi i j (by omega) (by omega) he)
  omega
/-- Each is met: as many as U at least. -/
theorem pig_met {U n : Nat} {f : Nat → Nat} (h : ∀ k, k < U → ∃ i, i < n ∧ f i = k) : U ≤ n := by
  have hq : ∀ k : Nat, ∃ i, k < U → i < n ∧ f i = k := fun k => by
    by_cases hk : k < U
    · obtain ⟨i, hi⟩ := h k hk
      exact ⟨i, fun _ => hi⟩
    · exact ⟨0, fun h => absurd h hk⟩
  obtain ⟨g, hg⟩ := Classical.axiomOfChoice hq
  exact pig n U g (fun k hk => (hg k hk).1) (fun a b ha hb e => by
    have h1 := (hg a ha).2
    have h2 := (hg b hb).2
    rw [e] at h1
    omega)

/-- What is wrong with volume i. -/
def cdV (E U M : Nat → Int) (i : Nat) : Int := if E i ≠ 0 then E i else if 0 < i ∧ U i ≠ U 0 then 10 else if ((List.range i).any fun j => M j == M i) = true then 9 else 0
theorem cdV_err {E U M : Nat → Int} {i : Nat} (h : E i ≠ 0) : cdV E U M i = E i := if_pos h
theorem cdV_order {E U M : Nat → Int} {i : Nat} (h : E i = 0) (h0 : 0 < i) (h1 : U i ≠ U 0) : cdV E U M i = 10 := by unfold cdV; rw [if_neg (by rw [h]; simp), if_pos ⟨h0, h1⟩]
theorem cdV_twice {E U M : Nat → Int} {i j : Nat} (h : E i = 0) (h1 : 0 < i → U i = U 0) (hj : j < i) (hm : M j = M i) : cdV E U M i = 9 := by
  unfold cdV
  rw [if_neg (by rw [h]; simp), if_neg (fun a => a.2 (h1 a.1)), if_pos]
  rw [List.any_eq_true]
  exact ⟨j, by simpa using hj, by simpa using hm⟩
theorem cdV_good {E U M : Nat → Int} {i : Nat} (h : E i = 0) (h1 : 0 < i → U i = U 0) (hm : ∀ j, j < i → M j ≠ M i) : cdV E U M i = 0 := by
  unfold cdV
  rw [if_neg (by rw [h]; simp), if_neg (fun a => a.2 (h1 a.1)), if_neg]
  rw [List.any_eq_true]
  rintro ⟨j, hj, he⟩
  exact hm j (by simpa using hj) (by simpa using he)
theorem cdV_zero {E U M : Nat → Int} {i : Nat} (h : cdV E U M i = 0) : E i = 0 ∧ (0 < i → U i = U 0) ∧ ∀ j, j < i → M j ≠ M i := by
  unfold cdV at h
  split at h
  · contradiction
  · rename_i h1
    split at h
    · omega
    · rename_i h2
      split at h
      · omega
      · rename_i h3
        refine ⟨Classical.byContradiction h1, fun h0 => Classical.byContradiction fun he => h2 ⟨h0, he⟩, fun j hj he => h3 ?_⟩
        rw [List.any_eq_true]
        exact ⟨j, by simpa using hj, by simpa using he⟩
/-- The bytes of part k, of the first n. -/
def pickD (M : Nat → Int) (D : Nat → ByteArray) (n : Nat) (k : Int) : Option ByteArray := ((List.range n).find? fun i => M i == k).map D
theorem pickD_zero (M : Nat → Int) (D : Nat → ByteArray) (k : Int) : pickD M D 0 k = none := rfl
theorem pickD_succ (M : Nat → Int) (D : Nat → ByteArray) (n : Nat) (k : Int) (hne : ∀ j, j < n → M j ≠ M n) : pickD M D (n + 1) k = if k = M n then some (D n) else pickD M D n k := by
  unfold pickD
  rw [List.range_succ, List.find?_append]
  by_cases hk : k = M n
  · have h0 : (List.range n).find? (fun i => M i == k) = none := by
      rw [List.find?_eq_none]
      intro j hj
      have := hne j (by simpa using hj)
      simp [hk, this]
    rw [h0, if_pos hk]
    simp [hk]
  · rw [if_neg hk]
    have : (M n == k) = false := by simpa using fun h => hk h.symm
    simp [this]
theorem pickD_some {M : Nat → Int} {D : Nat → ByteArray} {n : Nat} {k : Int} (h : (pickD M D n k).isSome = true) : ∃ i, i < n ∧ M i = k := by
  unfold pickD at h
  rw [Option.isSome_map, List.find?_isSome] at h
  obtain ⟨i, hi, he⟩ := h
  exact ⟨i, by simpa using hi, by simpa using he⟩
theorem pickD_is {M : Nat → Int} {D : Nat → ByteArray} {n i : Nat} {k : Int} (hi : i < n) (he : M i = k) : (pickD M D n k).isSome = true := by
  unfold pickD
  rw [Option.isSome_map, List.find?_isSome]
  exact ⟨i, by simpa using hi, by simpa using he⟩
def pickB (M : Nat → Int) (D : Nat → ByteArray) (n : Nat) (k : Nat) : ByteArray := (pickD M D n (k : Int)).getD ⟨#[]⟩
/-- Volumes joined. -/
def joinT (E U M : Nat → Int) (D : Nat → ByteArray) (n : Nat) : Tep :=
  if n = 0 then ⟨⟨#[]⟩, 8, -1⟩ else match badF n (cdV E U M) with
  | some i => ⟨⟨#[]⟩, cdV E U M i, (i : Int)⟩
  | none => if (n : Int) ≠ U 0 then ⟨⟨#[]⟩, 7, -1⟩ else ⟨catF (pickB M D n) ⟨#[]⟩ (U 0).toNat, 0, -1⟩
variable {E U M : Nat → Int} {D : Nat → ByteArray} {n : Nat}
theorem joinT_hit {k : Nat} (hk : k < n) (h : ∀ j, j < k → cdV E U M j = 0) (hb : cdV E U M k ≠ 0) : joinT E U M D n = ⟨⟨#[]⟩, cdV E U M k, (k : Int)⟩ := by unfold joinT; rw [if_neg (by omega), badF_hit hk h hb]
theorem joinT_miss (h0 : 0 < n) (h : ∀ j, j < n → cdV E U M j = 0) (hu : (n : Int) ≠ U 0) : joinT E U M D n = ⟨⟨#[]⟩, 7, -1⟩ := by unfold joinT; rw [if_neg (by omega), badF_none h]; exact if_pos hu
theorem joinT_good (h0 : 0 < n) (h : ∀ j, j < n → cdV E U M j = 0) (hu : (n : Int) = U 0) : joinT E U M D n = ⟨catF (pickB M D n) ⟨#[]⟩ (U 0).toNat, 0, -1⟩ := by unfold joinT; rw [if_neg (by omega), badF_none h]; exact if_neg (fun a => a hu)
/-- All are well: the parts' numbers differ and lie below the volumes' number. -/
theorem all_well (h : ∀ j, j < n → cdV E U M j = 0) (hr : ∀ j, j < n → E j = 0 → 0 ≤ M j ∧ M j < U j) : (∀ i, i < n → (M i).toNat < (U 0).toNat) ∧ ∀ i j, i < n → j < n → (M i).toNat = (M j).toNat → i = j := by
  have hu : ∀ j, j < n → U j = U 0 := fun j hj => by
    rcases Nat.eq_zero_or_pos j with h0 | h0
    · rw [h0]
    · exact (cdV_zero (h j hj)).2.1 h0
  have hb : ∀ j, j < n → 0 ≤ M j ∧ M j < U 0 := fun j hj => by
    have := hr j hj (cdV_zero (h j hj)).1
    rw [hu j hj] at this
    exact this
  refine ⟨fun i hi => by have := hb i hi; omega, fun i j hi hj he => ?_⟩
  have b1 := hb i hi
  have b2 := hb j hj
  rcases Nat.lt_trichotomy i j with h1 | h1 | h1
  · exact absurd (show M i = M j by omega) ((cdV_zero (h j hj)).2.2 i h1)
  · exact h1
  · exact absurd (show M j = M i by omega) ((cdV_zero (h i hi)).2.2 j h1)
/-- A part is missing: their number is another. -/
theorem miss_num (h : ∀ j, j < n → cdV E U M j = 0) (hr : ∀ j, j < n → E j = 0 → 0 ≤ M j ∧ M j < U j) {k : Nat} (hk : k < (U 0).toNat) (hp : (pickD M D n (k : Int)).isSome = false) : (n : Int) ≠ U 0 := by
  intro hn
  obtain ⟨a, b⟩ := all_well h hr
  obtain ⟨i, hi, he⟩ := pig_all a b (by omega) k hk
  have hb := hr i hi (cdV_zero (h i hi)).1
  rw [pickD_is hi (show M i = (k : Int) by omega)] at hp
  cases hp
theorem met_num (h : ∀ j, j < n → cdV E U M j = 0) (hr : ∀ j, j < n → E j = 0 → 0 ≤ M j ∧ M j < U j) (h0 : 0 ≤ U 0) (hp : ∀ k, k < (U 0).toNat → (pickD M D n (k : Int)).isSome = true) : (n : Int) = U 0 := by
  obtain ⟨a, b⟩ := all_well h hr
  have h1 := pig _ n _ a b
  have h2 := pig_met (U := (U 0).toNat) (n := n) (f := fun i => (M i).toNat) (fun k hk => by
    obtain ⟨i, hi, he⟩ := pickD_some (hp k hk)
    exact ⟨i, hi, by first | omega | (dsimp only; omega)⟩)
  omega
end Go.Proofs.YtiiaoagobjgkiaaGreatDoor
