/-
  Nine letters as a mode, in plain words. No program, no conditions.
-/
import Derived.Test.YtedcibjnnihhfaaDoorModeV
import Derived.Test.YtedcibjnnihhfaaDoorBits
namespace Go.Proofs.YtedcibjnnihhfaaDoor
open Go.RowKit Go.PlainAid

def ltrI (j : Nat) : Int := if j % 3 = 0 then 114 else if j % 3 = 1 then 119 else 120
def sstI (j : Nat) : Int := if j / 3 = 2 then 116 else 115
/-- The letter of a place, its two bits given; and back. -/
def charI (j : Nat) (b sp : Bool) : Int := if sp then (if b then sstI j else sstI j - 32) else if b then ltrI j else 45
def parseI (j : Nat) (c : Int) : Option (Bool × Bool) :=
  if c = 45 then some (false, false) else if c = ltrI j then some (true, false) else if j % 3 = 2 ∧ c = sstI j then some (true, true) else if j % 3 = 2 ∧ c = sstI j - 32 then some (false, true) else none
theorem parseI_char {j : Nat} {c : Int} {b sp : Bool} (h : parseI j c = some (b, sp)) : charI j b sp = c ∧ (sp = true → j % 3 = 2) := by
  unfold parseI at h
  split at h
  · injection h with h; injection h with h1 h2; subst h1 h2; rename_i e; exact ⟨e.symm, fun h => by cases h⟩
  · split at h
    · injection h with h; injection h with h1 h2; subst h1 h2; rename_i e; exact ⟨e.symm, fun h => by cases h⟩
    · split at h
      · injection h with h; injection h with h1 h2; subst h1 h2; rename_i e; exact ⟨e.2.symm, fun _ => e.1⟩
      · split at h
        · injection h with h; injection h with h1 h2; subst h1 h2; rename_i e; exact ⟨e.2.symm, fun _ => e.1⟩
        · cases h
theorem char_parse (j : Nat) (hj : j < 9) (b sp : Bool) (h : sp = true → j % 3 = 2) : parseI j (charI j b sp) = some (b, sp) := by
  rcases (show j = 0 ∨ j = 1 ∨ j = 2 ∨ j = 3 ∨ j = 4 ∨ j = 5 ∨ j = 6 ∨ j = 7 ∨ j = 8 by omega) with rfl | rfl | rfl | rfl | rfl | rfl | rfl | rfl | rfl <;> cases b <;> cases sp <;> first | decide | (exact absurd (h rfl) (by decide))

/-- Byte j of a list. -/
def atI (l : List UInt8) (j : Nat) : Int := ((l.getD j 0).toNat : Int)
theorem modeL_at (m : Int) (j : Nat) (hj : j < 9) : atI (modeL m) j = charI j (bitB m (8 - j)) (decide (j % 3 = 2) && bitB m (11 - j / 3)) := by
  have h := row2_at m 3 j hj
  unfold atI modeL
  rw [List.getD_eq_getElem?_getD, h, Option.getD_some]
  have hl : ∀ j, j < 9 → ((letA j).toNat : Int) = ltrI j := fun j hj => by
    rcases (show j = 0 ∨ j = 1 ∨ j = 2 ∨ j = 3 ∨ j = 4 ∨ j = 5 ∨ j = 6 ∨ j = 7 ∨ j = 8 by omega) with rfl | rfl | rfl | rfl | rfl | rfl | rfl | rfl | rfl <;> decide
  have hs : ((sstA (j / 3)).toNat : Int) = sstI j ∧ ((sstA (j / 3) - 32).toNat : Int) = sstI j - 32 := by
    rcases (show j = 0 ∨ j = 1 ∨ j = 2 ∨ j = 3 ∨ j = 4 ∨ j = 5 ∨ j = 6 ∨ j = 7 ∨ j = 8 by omega) with rfl | rfl | rfl | rfl | rfl | rfl | rfl | rfl | rfl <;> decide
  have hp : ((plainC m j).toNat : Int) = charI j (bitB m (8 - j)) false := by
    unfold plainC charI
    cases bitB m (8 - j)
    · rfl
    · simpa using hl j hj
  by_cases h3 : j % 3 = 2
  · rw [if_pos ⟨h3, by omega⟩]
    unfold lastC
    have e1 : 6 - 3 * (j / 3) = 8 - j := by omega
    have e2 : 3 * (j / 3) + 2 = j := by omega
    rw [e1, e2]
    cases hb : bitB m (11 - j / 3)
    · simpa using hp
    · simp only [h3, decide_true, Bool.true_and, if_true, charI]
      cases bitB m (8 - j)
      · simpa using hs.2
      · simpa using hs.1
  · rw [if_neg (fun h => h3 h.1)]
    simpa [h3] using hp
theorem modeL_len (m : Int) : (modeL m).length = 9 := row2_len m 3

theorem bitB_nat (m k : Nat) : bitB (m : Int) k = m.testBit k := by
  unfold bitB
  rw [Nat.testBit_eq_decide_div_mod_eq, Bool.eq_iff_iff]
  simp
  have e : ((m : Int) / 2 ^ k % 2) = ((m / 2 ^ k % 2 : Nat) : Int) := by simp
  rw [e]
  omega

/-- The bits that a letter tells. -/
def bitsI (j : Nat) (c : Int) : Nat :=
  match parseI j c with
  | some (b, sp) => (if b then 2 ^ (8 - j) else 0) ||| (if sp then 2 ^ (11 - j / 3) else 0)
  | none => 0
def accN (l : List UInt8) : Nat → Nat
  | 0 => 0
  | k + 1 => accN l k ||| bitsI k (atI l k)
theorem bitsI_lt (j : Nat) (c : Int) : bitsI j c < 4096 := by
  have h1 : ∀ b : Bool, (if b then 2 ^ (8 - j) else 0) < 2 ^ 12 := fun b => by
    cases b
    · simp
    · exact Nat.pow_lt_pow_right (by decide) (by omega)
  have h2 : ∀ b : Bool, (if b then 2 ^ (11 - j / 3) else 0) < 2 ^ 12 := fun b => by
    cases b
    · simp
    · exact Nat.pow_lt_pow_right (by decide) (by omega)
  unfold bitsI
  split
  · exact Nat.or_lt_two_pow (h1 _) (h2 _)
  · decide
theorem accN_lt (l : List UInt8) : ∀ k, accN l k < 4096
  | 0 => by simp [accN]
  | k + 1 => Nat.or_lt_two_pow (n := 12) (accN_lt l k) (bitsI_lt k _)
theorem bitsI_test {j : Nat} {c : Int} {b sp : Bool} (h : parseI j c = some (b, sp)) (t : Nat) : (bitsI j c).testBit t = ((b && decide (8 - j = t)) || (sp && decide (11 - j / 3 = t))) := by
  unfold bitsI
  rw [h]
  simp only [Nat.testBit_or]
  congr 1
  · cases b
    · simp
    · simp [Nat.testBit_two_pow]
  · cases sp
    · simp
    · simp [Nat.testBit_two_pow]
theorem accN_test (l : List UInt8) (t : Nat) : ∀ k, (accN l k).testBit t = (List.range k).any fun j => (bitsI j (atI l j)).testBit t
  | 0 => by simp [accN]
  | k + 1 => by
    rw [List.range_succ, List.any_append]
    simp only [accN, Nat.testBit_or, accN_test l t k]
    simp

/-- Every letter up to k is one. -/
def okTo (l : List UInt8) (k : Nat) : Prop := ∀ j, j < k → parseI j (atI l j) ≠ none
theorem accN_low {l : List UInt8} (h : okTo l 9) (j : Nat) (hj : j < 9) {b sp : Bool} (hp : parseI j (atI l j) = some (b, sp)) : (accN l 9).testBit (8 - j) = b := by
  rw [accN_test, Bool.eq_iff_iff, List.any_eq_true]
  constructor
  · rintro ⟨x, hx, ht⟩
    rw [List.mem_range] at hx
    obtain ⟨⟨b', sp'⟩, hx'⟩ := Option.ne_none_iff_exists'.1 (h x hx)
    rw [bitsI_test hx'] at ht
    simp at ht
    rcases ht with ⟨h1, h2⟩ | ⟨_, h2⟩
    · obtain rfl : x = j := by omega
      rw [hp] at hx'
      cases hx'
      exact h1
    · omega
  · intro hb
    exact ⟨j, by simpa using hj, by rw [bitsI_test hp]; simp [hb]⟩
theorem accN_high {l : List UInt8} (h : okTo l 9) (j : Nat) (hj : j < 9) (h3 : j % 3 = 2) {b sp : Bool} (hp : parseI j (atI l j) = some (b, sp)) : (accN l 9).testBit (11 - j / 3) = sp := by
  rw [accN_test, Bool.eq_iff_iff, List.any_eq_true]
  constructor
  · rintro ⟨x, hx, ht⟩
    rw [List.mem_range] at hx
    obtain ⟨⟨b', sp'⟩, hx'⟩ := Option.ne_none_iff_exists'.1 (h x hx)
    rw [bitsI_test hx'] at ht
    simp at ht
    rcases ht with ⟨_, h2⟩ | ⟨h1, h2⟩
    · omega
    · have := (parseI_char hx').2 h1
      obtain rfl : x = j := by omega
      rw [hp] at hx'
      cases hx'
      exact h1
  · intro hb
    exact ⟨j, by simpa using hj, by rw [bitsI_test hp]; simp [hb]⟩
theorem list9 {a b : List UInt8} (ha : a.length = 9) (hb : b.length = 9) (h : ∀ j, j < 9 → atI a j = atI b j) : a = b := by
  refine list_ext9 ha hb fun j hj => ?_
  have := h j hj
  unfold atI at this
  rw [List.getD_eq_getElem?_getD, List.getD_eq_getElem?_getD, List.getElem?_eq_getElem (by omega), List.getElem?_eq_getElem (by omega)] at this
  rw [List.getElem?_eq_getElem (by omega), List.getElem?_eq_getElem (by omega)]
  simp only [Option.getD_some] at this
  congr 1
  exact UInt8.toNat_inj.1 (by omega)
/-- All letters read: the mode with this text. -/
theorem accN_text {l : List UInt8} (hl : l.length = 9) (h : okTo l 9) : modeL (accN l 9 : Int) = l := by
  refine list9 (modeL_len _) hl fun j hj => ?_
  obtain ⟨⟨b, sp⟩, hp⟩ := Option.ne_none_iff_exists'.1 (h j hj)
  have hc := parseI_char hp
  rw [modeL_at _ j hj, bitB_nat, bitB_nat, accN_low h j hj hp, ← hc.1]
  by_cases h3 : j % 3 = 2
  · rw [accN_high h j hj h3 hp]; simp [h3]
  · have : sp = false := by cases sp with
      | false => rfl
      | true => exact absurd (hc.2 rfl) h3
    simp [h3, this]
/-- A mode's letters tell its bits. -/
theorem text_parse (m : Int) (j : Nat) (hj : j < 9) : parseI j (atI (modeL m) j) = some (bitB m (8 - j), decide (j % 3 = 2) && bitB m (11 - j / 3)) := by
  rw [modeL_at m j hj]
  exact char_parse j hj _ _ (by simp; intro h _; exact h)
theorem text_ok (m : Int) : okTo (modeL m) 9 := fun j hj => by rw [text_parse m j hj]; simp
theorem text_acc (m : Nat) (hm : m < 4096) : accN (modeL (m : Int)) 9 = m := by
  apply Nat.eq_of_testBit_eq
  intro t
  rcases Nat.lt_or_ge t 9 with h | h
  · have := accN_low (text_ok m) (8 - t) (by omega) (text_parse m (8 - t) (by omega))
    rw [show 8 - (8 - t) = t by omega] at this
    rw [this, bitB_nat]
  · rcases Nat.lt_or_ge t 12 with h2 | h2
    · have := accN_high (text_ok m) (3 * (11 - t) + 2) (by omega) (by omega) (text_parse m (3 * (11 - t) + 2) (by omega))
      rw [show 11 - (3 * (11 - t) + 2) / 3 = t by omega] at this
      rw [this, bitB_nat]
      have : (3 * (11 - t) + 2) % 3 = 2 := by omega
      simp [this]
    · have e : 4096 ≤ 2 ^ t := Nat.le_trans (show 4096 ≤ 2 ^ 12 by decide) (Nat.pow_le_pow_right (by decide) h2)
      rw [Nat.testBit_lt_two_pow (by have := accN_lt (modeL (m : Int)) 9; omega), Nat.testBit_lt_two_pow (by omega)]
theorem text_inj {m m' : Nat} (h : m < 4096) (h' : m' < 4096) (e : modeL (m : Int) = modeL (m' : Int)) : m = m' := by
  rw [← text_acc m h, e, text_acc m' h']

/-- The mode with a text, if there is one. -/
def okB (l : List UInt8) : Bool := decide (l.length = 9) && (List.range 9).all fun j => (parseI j (atI l j)).isSome
theorem okB_iff (l : List UInt8) : okB l = true ↔ l.length = 9 ∧ okTo l 9 := by
  unfold okB okTo
  rw [Bool.and_eq_true, List.all_eq_true]
  simp [Option.isSome_iff_ne_none]
def mrV (l : List UInt8) : Int := if okB l then (accN l 9 : Int) else 0
def mrE (l : List UInt8) : Int := if okB l then 0 else 3
theorem mr_good {l : List UInt8} (hl : l.length = 9) (h : okTo l 9) : mrV l = (accN l 9 : Int) ∧ mrE l = 0 := by
  have := (okB_iff l).2 ⟨hl, h⟩
  unfold mrV mrE
  rw [this]
  exact ⟨rfl, rfl⟩
theorem mr_bad {l : List UInt8} (h : ¬ (l.length = 9 ∧ okTo l 9)) : mrV l = 0 ∧ mrE l = 3 := by
  have : okB l = false := by
    rw [Bool.eq_false_iff]
    exact fun e => h ((okB_iff l).1 e)
  unfold mrV mrE
  rw [this]
  exact ⟨rfl, rfl⟩
/-- A mode that has this text: it is the one. -/
theorem mr_hit {l : List UInt8} {m : Nat} (hm : m < 4096) (h : modeL (m : Int) = l) : mrV l = (m : Int) ∧ mrE l = 0 := by
  subst h
  have := mr_good (modeL_len m) (text_ok m)
  rw [text_acc m hm] at this
  exact this
/-- No mode has it. -/
theorem mr_none {l : List UInt8} (h : ∀ m : Nat, m < 4096 → modeL (m : Int) ≠ l) : mrV l = 0 ∧ mrE l = 3 :=
  mr_bad fun ⟨hl, hk⟩ => h _ (accN_lt l 9) (accN_text hl hk)
end Go.Proofs.YtedcibjnnihhfaaDoor
