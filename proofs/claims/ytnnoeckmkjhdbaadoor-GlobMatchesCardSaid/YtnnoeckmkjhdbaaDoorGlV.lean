/-
  Patterns, in plain words: letters, sets, tokens. No program, no conditions.
-/
import Derived.Test.YtnnoeckmkjhdbaaDoorKit
import Derived.PlainAid
namespace Go.Proofs.YtnnoeckmkjhdbaaDoor
open Go.RowKit Go.PlainAid

/-- A text from place k on. -/
def suf (s : ByteArray) (k : Nat) : ByteArray := s.extract k s.size
theorem suf_size (s : ByteArray) (k : Nat) : (suf s k).size = s.size - k := by
  unfold suf
  rw [ByteArray.size_extract]
  omega
theorem suf_zero (s : ByteArray) : suf s 0 = s := by
  unfold suf
  exact ByteArray.extract_zero_size
theorem suf_bt {s : ByteArray} {k i : Nat} (h : k + i < s.size) : bt (suf s k) i = bt s (k + i) := by
  have h2 : i < (suf s k).size := by rw [suf_size]; omega
  unfold bt
  rw [dif_pos h2, dif_pos h]
  congr 1
  congr 1
  unfold suf
  exact ByteArray.getElem_extract ..
theorem suf_suf (s : ByteArray) (k i : Nat) : suf (suf s k) i = suf s (k + i) := by
  unfold suf
  apply ByteArray.ext
  simp only [ByteArray.data_extract, Array.extract_extract, ByteArray.size_extract]
  congr 1
  omega
theorem bt_rng (s : ByteArray) (k : Nat) : 0 ≤ bt s k ∧ bt s k ≤ 255 := by
  unfold bt
  split
  · rename_i h
    have := (s[k]'h).toNat_lt
    omega
  · omega
/-- A letter, and what is behind it. -/
def letV (s : ByteArray) : Option (Int × ByteArray) :=
  if s.size = 0 ∨ (s.size = 1 ∧ bt s 0 = 92) then none else if bt s 0 = 92 then some (bt s 1, suf s 2) else some (bt s 0, suf s 1)
theorem letV_rest {s r : ByteArray} {c : Int} (h : letV s = some (c, r)) : r.size < s.size ∧ 0 ≤ c ∧ c ≤ 255 ∧ ∃ k, 1 ≤ k ∧ k ≤ s.size ∧ r = suf s k := by
  unfold letV at h
  split at h
  · cases h
  · rename_i h1
    split at h
    · rename_i h2
      have hs : 2 ≤ s.size := by
        rcases Nat.lt_or_ge s.size 2 with h3 | h3
        · exact absurd (show s.size = 0 ∨ (s.size = 1 ∧ bt s 0 = 92) by omega) h1
        · exact h3
      injection h with h
      injection h with h3 h4
      subst h3 h4
      have := bt_rng s 1
      refine ⟨by rw [suf_size]; omega, this.1, this.2, 2, by omega, hs, rfl⟩
    · have hs : 1 ≤ s.size := by omega
      injection h with h
      injection h with h3 h4
      subst h3 h4
      have := bt_rng s 0
      refine ⟨by rw [suf_size]; omega, this.1, this.2, 1, by omega, hs, rfl⟩
def addR (g : Int → Bool) (a b : Int) : Int → Bool := fun c => g c || (decide (a ≤ c) && decide (c ≤ b))
/-- What follows is - and an element. -/
def rangedB (s : ByteArray) : Bool := decide (1 < s.size) && (bt s 0 == 45) && !(bt s 1 == 93)
/-- A set, behind its head. -/
def setL : Nat → Bool → (Int → Bool) → ByteArray → Option ((Int → Bool) × ByteArray)
  | 0, _, _, _ => none
  | f + 1, first, g, s =>
    if s.size ≠ 0 ∧ bt s 0 = 93 ∧ first = false then some (g, suf s 1) else match letV s with
    | none => none
    | some (a, r) => if rangedB r = true then (match letV (suf r 1) with | none => none | some (b, q) => setL f false (addR g a b) q) else setL f false (addR g a a) r
theorem setL_end {f : Nat} {first : Bool} {g : Int → Bool} {s : ByteArray} (h : s.size ≠ 0 ∧ bt s 0 = 93 ∧ first = false) : setL (f + 1) first g s = some (g, suf s 1) := by
  unfold setL
  exact if_pos h
theorem setL_bad {f : Nat} {first : Bool} {g : Int → Bool} {s : ByteArray} (h : ¬ (s.size ≠ 0 ∧ bt s 0 = 93 ∧ first = false)) (k : letV s = none) : setL (f + 1) first g s = none := by
  unfold setL
  rw [if_neg h, k]
theorem setL_one {f : Nat} {first : Bool} {g : Int → Bool} {s r : ByteArray} {a : Int} (h : ¬ (s.size ≠ 0 ∧ bt s 0 = 93 ∧ first = false)) (k : letV s = some (a, r)) (hr : rangedB r = false) : setL (f + 1) first g s = setL f false (addR g a a) r := by
  rw [setL, if_neg h, k]
  simp only [hr, Bool.false_eq_true, if_false]
theorem setL_half {f : Nat} {first : Bool} {g : Int → Bool} {s r : ByteArray} {a : Int} (h : ¬ (s.size ≠ 0 ∧ bt s 0 = 93 ∧ first = false)) (k : letV s = some (a, r)) (hr : rangedB r = true) (k2 : letV (suf r 1) = none) : setL (f + 1) first g s = none := by
  rw [setL, if_neg h, k]
  simp only [hr, if_true, k2]
theorem setL_two {f : Nat} {first : Bool} {g : Int → Bool} {s r q : ByteArray} {a b : Int} (h : ¬ (s.size ≠ 0 ∧ bt s 0 = 93 ∧ first = false)) (k : letV s = some (a, r)) (hr : rangedB r = true) (k2 : letV (suf r 1) = some (b, q)) : setL (f + 1) first g s = setL f false (addR g a b) q := by
  rw [setL, if_neg h, k]
  simp only [hr, if_true, k2]
theorem letV_at {s r : ByteArray} {k : Nat} {c : Int} (h : letV (suf s k) = some (c, r)) : ∃ j, k < j ∧ j ≤ s.size ∧ r = suf s j ∧ 0 ≤ c ∧ c ≤ 255 := by
  obtain ⟨_, c0, c1, i, i1, i2, hr⟩ := letV_rest h
  rw [suf_size] at i2
  exact ⟨k + i, by omega, by omega, by rw [hr, suf_suf], c0, c1⟩
theorem setL_at : ∀ (f : Nat) (first : Bool) (g : Int → Bool) (s : ByteArray) (a : Nat) (g' : Int → Bool) (r : ByteArray), setL f first g (suf s a) = some (g', r) → ∃ j, a < j ∧ j ≤ s.size ∧ r = suf s j
  | 0, _, _, _, _, _, _, h => by cases h
  | f + 1, first, g, s, a, g', r, h => by
    by_cases h1 : (suf s a).size ≠ 0 ∧ bt (suf s a) 0 = 93 ∧ first = false
    · rw [setL_end h1] at h
      injection h with h
      injection h with _ h
      subst h
      have h2 := h1.1
      rw [suf_size] at h2
      exact ⟨a + 1, by omega, by omega, suf_suf s a 1⟩
    · cases h2 : letV (suf s a) with
      | none =>
        rw [setL_bad h1 h2] at h
        cases h
      | some p =>
        obtain ⟨c, q⟩ := p
        obtain ⟨j, q1, q2, hq, _⟩ := letV_at h2
        subst hq
        cases h3 : rangedB (suf s j) with
        | false =>
          rw [setL_one h1 h2 h3] at h
          obtain ⟨i, r1, r2, r3⟩ := setL_at f _ _ _ _ _ _ h
          exact ⟨i, by omega, r2, r3⟩
        | true =>
          cases h4 : letV (suf (suf s j) 1) with
          | none =>
            rw [setL_half h1 h2 h3 h4] at h
            cases h
          | some p =>
            obtain ⟨b, q⟩ := p
            rw [setL_two h1 h2 h3 h4] at h
            rw [suf_suf] at h4
            obtain ⟨m, p1, p2, hq, _⟩ := letV_at h4
            subst hq
            obtain ⟨i, r1, r2, r3⟩ := setL_at f _ _ _ _ _ _ h
            exact ⟨i, by omega, r2, r3⟩
theorem setL_rest {f : Nat} {first : Bool} {g : Int → Bool} {s : ByteArray} {g' : Int → Bool} {r : ByteArray} (h : setL f first g s = some (g', r)) : r.size < s.size ∧ ∃ k, 1 ≤ k ∧ k ≤ s.size ∧ r = suf s k := by
  rw [← suf_zero s] at h
  obtain ⟨j, h1, h2, h3⟩ := setL_at _ _ _ _ _ _ _ h
  exact ⟨by rw [h3, suf_size]; omega, j, by omega, h2, h3⟩
/-- A set turns round. -/
def notB (s : ByteArray) : Bool := decide (s.size ≠ 0) && (bt s 0 == 33 || bt s 0 == 94)
def hdS (s : ByteArray) : ByteArray := if notB s = true then suf s 1 else s
theorem hdS_size (s : ByteArray) : (hdS s).size ≤ s.size := by
  unfold hdS
  split
  · rw [suf_size]
    omega
  · exact Nat.le_refl _
/-- A set without /. -/
def finS (n : Bool) (g : Int → Bool) : Int → Bool := fun c => (g c != n) && !(c == 47)
def setV (s : ByteArray) : Option ((Int → Bool) × ByteArray) := (setL ((hdS s).size + 1) true (fun _ => false) (hdS s)).map fun p => (finS (notB s) p.1, p.2)
theorem setV_rest {s r : ByteArray} {g : Int → Bool} (h : setV s = some (g, r)) : r.size < s.size ∧ ∃ k, 1 ≤ k ∧ k ≤ s.size ∧ r = suf s k := by
  unfold setV at h
  rw [Option.map_eq_some_iff] at h
  obtain ⟨⟨g', r'⟩, h1, h2⟩ := h
  injection h2 with _ h2
  simp only at h2
  subst h2
  obtain ⟨r1, k, r2, r3, rfl⟩ := setL_rest h1
  have := hdS_size s
  refine ⟨by omega, ?_⟩
  unfold hdS at r3 r1 ⊢
  split
  · rename_i hn
    rw [if_pos hn, suf_size] at r3
    exact ⟨1 + k, by omega, by omega, suf_suf s 1 k⟩
  · rename_i hn
    rw [if_neg hn] at r3
    exact ⟨k, r2, r3, rfl⟩
/-- A token: any bytes, any bytes with /, or a byte of a set. -/
structure Tok where
  many : Bool
  deep : Bool
  set : Int → Bool
def nextV (s : ByteArray) : Option (Tok × ByteArray) :=
  if bt s 0 = 42 then (if 1 < s.size ∧ bt s 1 = 42 then some (⟨true, true, fun _ => false⟩, suf s 2) else some (⟨true, false, fun _ => false⟩, suf s 1))
  else if bt s 0 = 63 then some (⟨false, false, fun c => !(c == 47)⟩, suf s 1)
  else if bt s 0 = 91 then (setV (suf s 1)).map fun p => (⟨false, false, p.1⟩, p.2)
  else (letV s).map fun p => (⟨false, false, fun c => c == p.1⟩, p.2)
theorem nextV_rest {s r : ByteArray} {t : Tok} (hs : s.size ≠ 0) (h : nextV s = some (t, r)) : r.size < s.size ∧ ∃ k, 1 ≤ k ∧ k ≤ s.size ∧ r = suf s k := by
  unfold nextV at h
  split at h
  · split at h
    · rename_i h1
      injection h with h
      injection h with _ h
      subst h
      exact ⟨by rw [suf_size]; omega, 2, by omega, by omega, rfl⟩
    · injection h with h
      injection h with _ h
      subst h
      exact ⟨by rw [suf_size]; omega, 1, by omega, by omega, rfl⟩
  · split at h
    · injection h with h
      injection h with _ h
      subst h
      exact ⟨by rw [suf_size]; omega, 1, by omega, by omega, rfl⟩
    · split at h
      · rw [Option.map_eq_some_iff] at h
        obtain ⟨⟨g, r'⟩, h1, h2⟩ := h
        injection h2 with _ h2
        simp only at h2
        subst h2
        obtain ⟨r1, k, r2, r3, rfl⟩ := setV_rest h1
        simp only [suf_size] at r1 r3 ⊢
        exact ⟨by omega, 1 + k, by omega, by omega, suf_suf s 1 k⟩
      · rw [Option.map_eq_some_iff] at h
        obtain ⟨⟨c, r'⟩, h1, h2⟩ := h
        injection h2 with _ h2
        simp only at h2
        subst h2
        obtain ⟨r1, _, _, r2⟩ := letV_rest h1
        exact ⟨r1, r2⟩
def parseL : Nat → ByteArray → Option (List Tok)
  | 0, _ => none
  | f + 1, s => if s.size = 0 then some [] else match nextV s with
    | none => none
    | some (t, r) => (parseL f r).map (t :: ·)
theorem parseL_end {f : Nat} {s : ByteArray} (h : s.size = 0) : parseL (f + 1) s = some [] := by
  unfold parseL
  exact if_pos h
theorem parseL_bad {f : Nat} {s : ByteArray} (h : s.size ≠ 0) (k : nextV s = none) : parseL (f + 1) s = none := by
  unfold parseL
  rw [if_neg h, k]
theorem parseL_step {f : Nat} {s r : ByteArray} {t : Tok} (h : s.size ≠ 0) (k : nextV s = some (t, r)) : parseL (f + 1) s = (parseL f r).map (t :: ·) := by
  rw [parseL, if_neg h, k]
def parseV (s : ByteArray) : Option (List Tok) := parseL (s.size + 1) s
/-- A text is a pattern: as the document's answer says it. -/
def isL : Nat → ByteArray → Bool
  | 0, _ => false
  | f + 1, s => if s.size = 0 then true else if bt s 0 = 42 ∨ bt s 0 = 63 then isL f (suf s 1) else if bt s 0 = 91 then (match setV (suf s 1) with | none => false | some p => isL f p.2) else match letV s with | none => false | some p => isL f p.2
def isV (s : ByteArray) : Bool := isL (s.size + 1) s
theorem isL_end {f : Nat} {s : ByteArray} (h : s.size = 0) : isL (f + 1) s = true := by
  unfold isL
  exact if_pos h
theorem isL_star {f : Nat} {s : ByteArray} (h : s.size ≠ 0) (k : bt s 0 = 42 ∨ bt s 0 = 63) : isL (f + 1) s = isL f (suf s 1) := by
  rw [isL, if_neg h, if_pos k]
theorem isL_set {f : Nat} {s : ByteArray} (h : s.size ≠ 0) (k : bt s 0 = 91) : isL (f + 1) s = match setV (suf s 1) with | none => false | some p => isL f p.2 := by
  rw [isL, if_neg h, if_neg (by omega), if_pos k]
theorem isL_let {f : Nat} {s : ByteArray} (h : s.size ≠ 0) (k : ¬ (bt s 0 = 42 ∨ bt s 0 = 63)) (k2 : bt s 0 ≠ 91) : isL (f + 1) s = match letV s with | none => false | some p => isL f p.2 := by
  rw [isL, if_neg h, if_neg k, if_neg k2]
theorem isL_fuel : ∀ (f f' : Nat) (s : ByteArray), s.size < f → s.size < f' → isL f s = isL f' s
  | 0, _, _, h, _ => absurd h (Nat.not_lt_zero _)
  | _, 0, _, _, h => absurd h (Nat.not_lt_zero _)
  | f + 1, f' + 1, s, h, h' => by
    by_cases h0 : s.size = 0
    · rw [isL_end h0, isL_end h0]
    · by_cases h1 : bt s 0 = 42 ∨ bt s 0 = 63
      · rw [isL_star h0 h1, isL_star h0 h1]
        exact isL_fuel f f' _ (by rw [suf_size]; omega) (by rw [suf_size]; omega)
      · by_cases h2 : bt s 0 = 91
        · rw [isL_set h0 h2, isL_set h0 h2]
          cases h3 : setV (suf s 1) with
          | none => rfl
          | some p =>
            obtain ⟨g, r⟩ := p
            have := (setV_rest h3).1
            rw [suf_size] at this
            exact isL_fuel f f' r (by omega) (by omega)
        · rw [isL_let h0 h1 h2, isL_let h0 h1 h2]
          cases h3 : letV s with
          | none => rfl
          | some p =>
            obtain ⟨g, r⟩ := p
            have := (letV_rest h3).1
            exact isL_fuel f f' r (by omega) (by omega)
/-- What can be parsed is a pattern, and the other way round. -/
theorem parse_is : ∀ (f : Nat) (s : ByteArray), s.size < f → (parseL f s).isSome = isL f s
  | 0, _, h => absurd h (Nat.not_lt_zero _)
  | f + 1, s, h => by
    by_cases h0 : s.size = 0
    · rw [parseL_end h0, isL_end h0]
      rfl
    · cases h1 : nextV s with
      | none =>
        rw [parseL_bad h0 h1]
        unfold nextV at h1
        split at h1
        · split at h1 <;> cases h1
        · rename_i n1
          split at h1
          · cases h1
          · rename_i n2
            split at h1
            · rename_i n3
              rw [isL_set h0 n3]
              rw [Option.map_eq_none_iff] at h1
              rw [h1]
              rfl
            · rename_i n3
              rw [isL_let h0 (by omega) n3]
              rw [Option.map_eq_none_iff] at h1
              rw [h1]
              rfl
      | some p =>
        obtain ⟨t, r⟩ := p
        have hr := (nextV_rest h0 h1).1
        rw [parseL_step h0 h1, Option.isSome_map, parse_is f r (by omega)]
        unfold nextV at h1
        split at h1
        · rename_i n1
          rw [isL_star h0 (.inl n1)]
          split at h1
          · rename_i n2
            injection h1 with h1
            injection h1 with _ h1
            subst h1
            obtain ⟨f, rfl⟩ : ∃ e, f = e + 1 := ⟨f - 1, by omega⟩
            have e1 : bt (suf s 1) 0 = bt s 1 := suf_bt (by omega)
            rw [isL_star (f := f) (s := suf s 1) (by rw [suf_size]; omega) (.inl (by rw [e1]; exact n2.2)), suf_suf]
            exact isL_fuel _ _ _ (by rw [suf_size]; omega) (by rw [suf_size]; omega)
          · injection h1 with h1
            injection h1 with _ h1
            subst h1
            rfl
        · rename_i n1
          split at h1
          · rename_i n2
            injection h1 with h1
            injection h1 with _ h1
            subst h1
            rw [isL_star h0 (.inr n2)]
          · rename_i n2
            split at h1
            · rename_i n3
              rw [isL_set h0 n3]
              rw [Option.map_eq_some_iff] at h1
              obtain ⟨⟨g, r'⟩, h2, h3⟩ := h1
              injection h3 with _ h3
              rw [h2, ← h3]
            · rename_i n3
              rw [isL_let h0 (by omega) n3]
              rw [Option.map_eq_some_iff] at h1
              obtain ⟨⟨g, r'⟩, h2, h3⟩ := h1
              injection h3 with _ h3
              rw [h2, ← h3]
end Go.Proofs.YtnnoeckmkjhdbaaDoor
