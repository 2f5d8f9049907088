/-
  What the reference keeps of all pairs: those that are the last of their key, with a value. Plain; no conditions.
-/
import Derived.Test.YtnnoeckmkjhdbaaMgV
namespace Go.Proofs.Ytnnoeckmkjhdbaa

theorem lastB_none_iff {l : List Pr} {k : ByteArray} (h : lastB l k = none) : ∀ q ∈ l, q.1 ≠ k := by
  induction l with
  | nil => intro q hq; cases hq
  | cons p l ih =>
    have h : (match lastB l k with | some v => some v | none => if p.1 = k then some p.2 else none) = none := h
    cases h2 : lastB l k with
    | some x => rw [h2] at h; cases h
    | none =>
      rw [h2] at h
      intro q hq e
      rcases List.mem_cons.1 hq with h3 | h3
      · subst h3
        simp [e] at h
      · exact ih h2 q h3 e
theorem lastB_iff : ∀ (l : List Pr) (k v : ByteArray), lastB l k = some v ↔ ∃ i, l[i]? = some (k, v) ∧ ∀ q ∈ l.drop (i + 1), q.1 ≠ k
  | [], k, v => ⟨fun h => (by cases h), fun ⟨i, h, _⟩ => by simp at h⟩
  | p :: l, k, v => by
    have ih := lastB_iff l k v
    have hd : lastB (p :: l) k = (match lastB l k with | some v => some v | none => if p.1 = k then some p.2 else none) := rfl
    constructor
    · intro h
      rw [hd] at h
      cases h2 : lastB l k with
      | some x =>
        rw [h2] at h
        obtain ⟨i, h3, h4⟩ := ih.1 (by rw [h2]; exact h)
        exact ⟨i + 1, by simpa using h3, by simpa using h4⟩
      | none =>
        rw [h2] at h
        by_cases h3 : p.1 = k
        · simp only [if_pos h3, Option.some.injEq] at h
          exact ⟨0, by simp [← h3, ← h], by simpa using lastB_none_iff h2⟩
        · simp only [if_neg h3] at h
          cases h
    · rintro ⟨i, h3, h4⟩
      rw [hd]
      cases i with
      | zero =>
        have e : p = (k, v) := by simpa using h3
        have h5 : ∀ q ∈ l, q.1 ≠ k := by simpa using h4
        rw [lastB_none h5, e]
        simp
      | succ i =>
        rw [ih.2 ⟨i, by simpa using h3, by simpa using h4⟩]

def lastAt (l : List Pr) (p : Pr) : Bool := l.all fun q => !(q.1.toList == p.1.toList)
def keepP (all : List Pr) (i : Nat) (p : Pr) : Bool := lastAt (all.drop (i + 1)) p && !p.2.toList.isEmpty
def outV (all : List Pr) : Nat → List Pr
  | 0 => []
  | k + 1 => match all[k]? with | some p => if keepP all k p = true then outV all k ++ [p] else outV all k | none => outV all k
theorem outV_hit {all : List Pr} {k : Nat} {p : Pr} (hp : all[k]? = some p) (h : keepP all k p = true) : outV all (k + 1) = outV all k ++ [p] := by
  show (match all[k]? with | some p => if keepP all k p = true then outV all k ++ [p] else outV all k | none => outV all k) = _
  rw [hp]
  simp [h]
theorem outV_miss {all : List Pr} {k : Nat} {p : Pr} (hp : all[k]? = some p) (h : keepP all k p = false) : outV all (k + 1) = outV all k := by
  show (match all[k]? with | some p => if keepP all k p = true then outV all k ++ [p] else outV all k | none => outV all k) = _
  rw [hp]
  simp [h]
theorem outV_len (all : List Pr) : ∀ k, (outV all k).length ≤ k
  | 0 => Nat.le_refl _
  | k + 1 => by
    have ih := outV_len all k
    show (match all[k]? with | some p => if keepP all k p = true then outV all k ++ [p] else outV all k | none => outV all k).length ≤ k + 1
    cases all[k]? with
    | none => exact Nat.le_succ_of_le ih
    | some p =>
      show (if keepP all k p = true then outV all k ++ [p] else outV all k).length ≤ k + 1
      split
      · rw [List.length_append]
        exact Nat.succ_le_succ ih
      · exact Nat.le_succ_of_le ih
theorem mem_out (all : List Pr) (p : Pr) : ∀ k, p ∈ outV all k ↔ ∃ i, i < k ∧ all[i]? = some p ∧ keepP all i p = true
  | 0 => ⟨fun h => (by cases h), fun ⟨i, h, _⟩ => absurd h (Nat.not_lt_zero _)⟩
  | k + 1 => by
    have ih := mem_out all p k
    have up : (∃ i, i < k ∧ all[i]? = some p ∧ keepP all i p = true) → ∃ i, i < k + 1 ∧ all[i]? = some p ∧ keepP all i p = true := fun ⟨i, h1, h2⟩ => ⟨i, by omega, h2⟩
    cases hk : all[k]? with
    | none =>
      have e : outV all (k + 1) = outV all k := by
        show (match all[k]? with | some p => if keepP all k p = true then outV all k ++ [p] else outV all k | none => outV all k) = _
        rw [hk]
      rw [e, ih]
      refine ⟨up, fun ⟨i, h1, h2, h3⟩ => ⟨i, ?_, h2, h3⟩⟩
      by_cases e : i = k
      · rw [e, hk] at h2; cases h2
      · omega
    | some q =>
      cases hq : keepP all k q with
      | false =>
        rw [outV_miss hk hq, ih]
        refine ⟨up, fun ⟨i, h1, h2, h3⟩ => ⟨i, ?_, h2, h3⟩⟩
        by_cases e : i = k
        · rw [e, hk] at h2
          injection h2 with h2
          rw [e, ← h2, hq] at h3
          cases h3
        · omega
      | true =>
        rw [outV_hit hk hq, List.mem_append, ih, List.mem_singleton]
        constructor
        · rintro (h | h)
          · exact up h
          · exact ⟨k, by omega, by rw [h]; exact hk, by rw [h]; exact hq⟩
        · rintro ⟨i, h1, h2, h3⟩
          by_cases e : i = k
          · rw [e, hk] at h2
            injection h2 with h2
            exact .inr h2.symm
          · exact .inl ⟨i, by omega, h2, h3⟩
theorem keys_ne {a b : ByteArray} : (!(a.toList == b.toList)) = true ↔ a ≠ b := by
  rw [Bool.not_eq_true', beq_eq_false_iff_ne, ByteArray.toList_eq, ByteArray.toList_eq]
  exact ⟨fun h e => h (by rw [e]), fun h e => h (key_ext e)⟩
theorem val_ne {v : ByteArray} : (!v.toList.isEmpty) = true ↔ v.size ≠ 0 := by
  rw [ByteArray.toList_eq]
  obtain ⟨⟨l⟩⟩ := v
  cases l with
  | nil => simp [ByteArray.size]
  | cons x l => simp [ByteArray.size]
theorem keep_iff {all : List Pr} {i : Nat} {p : Pr} : keepP all i p = true ↔ (∀ q ∈ all.drop (i + 1), q.1 ≠ p.1) ∧ p.2.size ≠ 0 := by
  unfold keepP lastAt
  rw [Bool.and_eq_true, val_ne, List.all_eq_true]
  refine and_congr_left fun _ => ⟨fun h q hq => keys_ne.1 (h q hq), fun h q hq => keys_ne.2 (h q hq)⟩
theorem out_mem (all : List Pr) (p : Pr) : p ∈ outV all all.length ↔ lastB all p.1 = some p.2 ∧ p.2.size ≠ 0 := by
  rw [mem_out, lastB_iff]
  constructor
  · rintro ⟨i, _, h2, h3⟩
    obtain ⟨h4, h5⟩ := keep_iff.1 h3
    exact ⟨⟨i, h2, h4⟩, h5⟩
  · rintro ⟨⟨i, h2, h4⟩, h5⟩
    exact ⟨i, (List.getElem?_eq_some_iff.1 h2).1, h2, keep_iff.2 ⟨h4, h5⟩⟩
theorem out_nodup (all : List Pr) : ∀ k, ((outV all k).map (·.1)).Nodup
  | 0 => List.nodup_nil
  | k + 1 => by
    have ih := out_nodup all k
    cases hk : all[k]? with
    | none =>
      have e : outV all (k + 1) = outV all k := by
        show (match all[k]? with | some p => if keepP all k p = true then outV all k ++ [p] else outV all k | none => outV all k) = _
        rw [hk]
      rw [e]
      exact ih
    | some q =>
      cases hq : keepP all k q with
      | false => rw [outV_miss hk hq]; exact ih
      | true =>
        rw [outV_hit hk hq, List.map_append, List.nodup_append]
        refine ⟨ih, by simp, fun a ha b hb e => ?_⟩
        have hb : b = q.1 := by simpa using hb
        obtain ⟨r, hr, rfl⟩ := List.mem_map.1 ha
        obtain ⟨i, h1, h2, h3⟩ := (mem_out all r k).1 hr
        have h4 := (keep_iff.1 h3).1 q (List.mem_iff_getElem?.2 ⟨k - (i + 1), by rw [List.getElem?_drop, show i + 1 + (k - (i + 1)) = k by omega]; exact hk⟩)
        exact h4 (by rw [← hb, ← e])
theorem lastAt_take {l : List Pr} {p q : Pr} {j : Nat} (hq : l[j]? = some q) : lastAt (l.take (j + 1)) p = (lastAt (l.take j) p && !(q.1.toList == p.1.toList)) := by
  unfold lastAt
  rw [List.take_add_one, hq, List.all_append]
  simp
end Go.Proofs.Ytnnoeckmkjhdbaa
