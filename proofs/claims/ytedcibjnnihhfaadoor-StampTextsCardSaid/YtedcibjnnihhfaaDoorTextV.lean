/-
  A time in decimal, in plain words. No program, no conditions.
-/
import Derived.Test.YtedcibjnnihhfaaDoorItoa
import Derived.Test.YtedcibjnnihhfaaDoorTime
namespace Go.Proofs.YtedcibjnnihhfaaDoor
open Go.RowKit

/-- A number below 10^9 in nine digits. -/
def pad9 (p : Nat) : List UInt8 := (List.range 9).map fun t => Lib.dg p (8 - t)
theorem pad9_len (p : Nat) : (pad9 p).length = 9 := by simp [pad9]
theorem pad9_get (p t : Nat) (h : t < (pad9 p).length) : (pad9 p)[t] = Lib.dg p (8 - t) := by simp [pad9]
theorem dg_high (p j : Nat) (hj : j ≤ 8) : Lib.dg (1000000000 + p) j = Lib.dg p j := by
  unfold Lib.dg
  have e : (1000000000 + p) / 10 ^ j % 10 = p / 10 ^ j % 10 := by
    rcases (show j = 0 ∨ j = 1 ∨ j = 2 ∨ j = 3 ∨ j = 4 ∨ j = 5 ∨ j = 6 ∨ j = 7 ∨ j = 8 by omega) with rfl | rfl | rfl | rfl | rfl | rfl | rfl | rfl | rfl
    all_goals
      simp only [Nat.reducePow]
      omega
  rw [e]
theorem dg_one (p : Nat) (h : p < 1000000000) : Lib.dg (1000000000 + p) 9 = 49 := by
  unfold Lib.dg
  have e : (1000000000 + p) / 10 ^ 9 % 10 = 1 := by
    simp only [Nat.reducePow]
    omega
  rw [e]
  rfl
theorem dec_pad (p : Nat) (h : p < 1000000000) : Lib.decDigits (1000000000 + p) = 49 :: pad9 p := by
  have hn : Lib.nDigits (1000000000 + p) = 10 := Lib.nDigits_unique 9 _ (by simp only [Nat.reducePow]; omega) (by simp only [Nat.reducePow, Nat.reduceAdd]; omega)
  rw [Lib.decDigits_eq, hn, List.range_succ_eq_map, List.map_cons, List.map_map]
  congr 1
  · exact dg_one p h
  · unfold pad9
    refine List.map_congr_left fun t ht => ?_
    have ht' : t < 9 := List.mem_range.1 ht
    show Lib.dg (1000000000 + p) (10 - 1 - (t + 1)) = _
    rw [show 10 - 1 - (t + 1) = 8 - t by omega]
    exact dg_high p _ (by omega)
theorem nDigits_le : ∀ (k u : Nat), u < 10 ^ (k + 1) → Lib.nDigits u ≤ k + 1
  | 0, u, h => by rw [Lib.nDigits_small (by simpa using h)]; omega
  | k + 1, u, h => by
    by_cases h0 : u < 10
    · rw [Lib.nDigits_small h0]; omega
    · rw [Lib.nDigits_big h0]
      have := nDigits_le k (u / 10) (by rw [Nat.pow_succ] at h; omega)
      omega
theorem itoa_size (n : Int) (h0 : -9999999999999 ≤ n) (h1 : n ≤ 9999999999999) : (⟨(Lib.itoa n).toArray⟩ : ByteArray).size ≤ 14 := by
  show (Lib.itoa n).toArray.size ≤ 14
  unfold Lib.itoa
  split
  · have := nDigits_le 12 n.natAbs (by simp only [Nat.reducePow, Nat.reduceAdd]; omega)
    simp [Lib.decDigits_length]; omega
  · have := nDigits_le 12 n.toNat (by simp only [Nat.reducePow, Nat.reduceAdd]; omega)
    simp [Lib.decDigits_length]; omega
theorem dec_zeros (p : Nat) (h : p < 1000000000) : List.replicate (9 - (Lib.decDigits p).length) 48 ++ Lib.decDigits p = pad9 p := by
  have hn := nDigits_le 8 p (by simpa using h)
  have hp := Lib.lt_pow_nDigits p
  rw [Lib.decDigits_length, Lib.decDigits_eq]
  generalize Lib.nDigits p = n at *
  apply List.ext_getElem
  · simp [pad9]; omega
  · intro t h1 h2
    have ht : t < 9 := by simpa [pad9] using h2
    rw [pad9_get]
    by_cases hl : t < 9 - n
    · rw [List.getElem_append_left (by simpa using hl), List.getElem_replicate]
      have e : p / 10 ^ (8 - t) = 0 := Nat.div_eq_of_lt (Nat.lt_of_lt_of_le hp (Nat.pow_le_pow_right (by decide) (by omega)))
      unfold Lib.dg
      rw [e]
      rfl
    · rw [List.getElem_append_right (by simpa using hl)]
      simp only [List.getElem_map, List.getElem_range, List.length_replicate]
      congr 1
      omega

theorem itoa_pad (p : Int) (h0 : 0 ≤ p) (h : p < 1000000000) : Lib.itoa (1000000000 + p) = 49 :: pad9 p.toNat := by
  obtain ⟨k, rfl⟩ := Int.eq_ofNat_of_zero_le h0
  rw [show (1000000000 : Int) + (k : Int) = ((1000000000 + k : Nat) : Int) by omega, Lib.itoa_nonneg]
  exact dec_pad k (by omega)

/-- Without its zeros behind. -/
def trimZ (l : List UInt8) : List UInt8 := Lib.trimRightB l 48
theorem trimZ_step (l : List UInt8) : trimZ (l ++ [48]) = trimZ l := by simp [trimZ, Lib.trimRightB]
theorem trimZ_stop {l : List UInt8} (h : ∀ x, l.getLast? = some x → x ≠ 48) : trimZ l = l := by
  unfold trimZ Lib.trimRightB
  rcases List.eq_nil_or_concat l with rfl | ⟨t, x, rfl⟩
  · rfl
  · have hx : (x == 48) = false := by
      rw [beq_eq_false_iff_ne]
      exact h x (by simp)
    simp [hx]
theorem trimZ_zero : trimZ (pad9 0) = [] := by decide
theorem drop_all {p : UInt8 → Bool} : ∀ {l : List UInt8}, l.dropWhile p = [] → ∀ x ∈ l, p x = true
  | [], _, x, hx => by cases hx
  | y :: t, h, x, hx => by
    cases hy : p y with
    | false => rw [List.dropWhile_cons, hy] at h; cases h
    | true =>
      rw [List.dropWhile_cons, hy] at h
      rcases List.mem_cons.1 hx with rfl | h1
      · exact hy
      · exact drop_all h x h1
theorem zero_of_digits : ∀ (k p : Nat), p < 10 ^ k → (∀ j, j < k → p / 10 ^ j % 10 = 0) → p = 0
  | 0, p, h, _ => by simpa using h
  | k + 1, p, h, hd => by
    have h0 := hd 0 (by omega)
    rw [Nat.pow_zero, Nat.div_one] at h0
    have h1 := zero_of_digits k (p / 10) (by rw [Nat.pow_succ] at h; omega) (fun j hj => by
      rw [Nat.div_div_eq_div_mul, ← Nat.pow_succ']
      exact hd (j + 1) (by omega))
    omega
theorem digit_zero {q : Nat} (h9 : q < 10) (h : UInt8.ofNat (48 + q) = 48) : q = 0 := by
  have := congrArg UInt8.toNat h
  simp at this
  omega
theorem trimZ_pos (p : Nat) (h0 : 0 < p) (h : p < 1000000000) : trimZ (pad9 p) ≠ [] := by
  intro e
  have hz : ∀ x ∈ pad9 p, x = 48 := by
    unfold trimZ Lib.trimRightB at e
    have e' : (pad9 p).reverse.dropWhile (· == 48) = [] := by simpa using e
    intro x hx
    simpa using drop_all e' x (by simpa using hx)
  have hp := zero_of_digits 9 p (by simpa using h) fun j hj => by
    have hm : Lib.dg p j ∈ pad9 p := by
      unfold pad9
      rw [List.mem_map]
      exact ⟨8 - j, by simp; omega, by rw [show 8 - (8 - j) = j by omega]⟩
    exact digit_zero (Nat.mod_lt _ (by decide)) (hz _ hm)
  omega

/-- Whole seconds and the part behind the point, the sign aside. -/
def wholeT (ts tn : Int) : Int := if ts < 0 then (if 0 < tn then -ts - 1 else -ts) else ts
def partT (ts tn : Int) : Int := if ts < 0 ∧ 0 < tn then 1000000000 - tn else tn
def signT (ts : Int) : ByteArray := if ts < 0 then ⟨#[45]⟩ else ⟨#[]⟩
def tailT (p : Int) : ByteArray := if 0 < p then ⟨#[46]⟩ ++ ⟨(trimZ (pad9 p.toNat)).toArray⟩ else ⟨#[]⟩
/-- The text of a valid time; the error. -/
def textV (ts tn : Int) : ByteArray := if timeB ts tn then signT ts ++ ⟨(Lib.itoa (wholeT ts tn)).toArray⟩ ++ tailT (partT ts tn) else ⟨#[]⟩
def textE (ts tn : Int) : Int := if timeB ts tn then 0 else 1
end Go.Proofs.YtedcibjnnihhfaaDoor
