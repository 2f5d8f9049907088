/-
  What a number in a field is, in plain words: by the base 256 (wd) and in octal digits (od). No program, no conditions.
-/
import Derived.PlainAid
import Derived.IntWalk
import Derived.Lib.SlTrimSet
namespace Go.Proofs.YtiiaoagobjgkiaaGreatDoor
open Go.RowKit Go.PlainAid

/-- By the base 256: the number so far, the place, how many bytes are left. -/
def wd (s : ByteArray) (n : Int) (i : Nat) : Nat → Option Int
  | 0 => some n
  | f + 1 => if n < 36028797018963968 ∧ -36028797018963968 ≤ n then wd s (256 * n + bt s i) (i + 1) f else none
def wd0 (s : ByteArray) : Int := if bt s 0 = 255 then -1 else bt s 0 % 128
def wdR (s : ByteArray) : Option Int := wd s (wd0 s) 1 (s.size - 1)
theorem wd_good {s : ByteArray} {n : Int} {k : Nat} (h : k < s.size) (h1 : n < 36028797018963968) (h2 : -36028797018963968 ≤ n) : wd s n k (s.size - k) = wd s (256 * n + bt s k) (k + 1) (s.size - (k + 1)) := by
  rw [show s.size - k = (s.size - (k + 1)) + 1 by omega]
  simp only [wd]
  rw [if_pos ⟨h1, h2⟩]
theorem wd_bad {s : ByteArray} {n : Int} {k : Nat} (h : k < s.size) (h1 : ¬ (n < 36028797018963968 ∧ -36028797018963968 ≤ n)) : wd s n k (s.size - k) = none := by
  rw [show s.size - k = (s.size - (k + 1)) + 1 by omega]
  simp only [wd]
  rw [if_neg h1]
theorem wd_end (s : ByteArray) (n : Int) (k : Nat) (h : s.size ≤ k) : wd s n k (s.size - k) = some n := by
  rw [show s.size - k = 0 by omega]; rfl

/-- In octal digits: the value or the error (3: of another form, 2: too great). -/
def od (s : ByteArray) (n : Int) (i : Nat) : Nat → Int × Int
  | 0 => (n, 0)
  | f + 1 => if bt s i < 48 ∨ 55 < bt s i then (0, 3) else if 1152921504606846976 ≤ n then (0, 2) else od s (8 * n + (bt s i - 48)) (i + 1) f
theorem od_good {s : ByteArray} {n : Int} {k : Nat} (h : k < s.size) (h1 : 48 ≤ bt s k) (h2 : bt s k ≤ 55) (h3 : n < 1152921504606846976) : od s n k (s.size - k) = od s (8 * n + (bt s k - 48)) (k + 1) (s.size - (k + 1)) := by
  rw [show s.size - k = (s.size - (k + 1)) + 1 by omega]
  simp only [od]
  rw [if_neg (by omega), if_neg (by omega)]
theorem od_form {s : ByteArray} {n : Int} {k : Nat} (h : k < s.size) (h1 : bt s k < 48 ∨ 55 < bt s k) : od s n k (s.size - k) = (0, 3) := by
  rw [show s.size - k = (s.size - (k + 1)) + 1 by omega]
  simp only [od]
  rw [if_pos h1]
theorem od_range {s : ByteArray} {n : Int} {k : Nat} (h : k < s.size) (h1 : 48 ≤ bt s k) (h2 : bt s k ≤ 55) (h3 : 1152921504606846976 ≤ n) : od s n k (s.size - k) = (0, 2) := by
  rw [show s.size - k = (s.size - (k + 1)) + 1 by omega]
  simp only [od]
  rw [if_neg (by omega), if_pos h3]
theorem od_end (s : ByteArray) (n : Int) (k : Nat) (h : s.size ≤ k) : od s n k (s.size - k) = (n, 0) := by
  rw [show s.size - k = 0 by omega]; rfl

/-- The field without its blanks in front, and those and the bytes 0 behind. -/
def cutF (s : ByteArray) : ByteArray := ⟨(Lib.trimRightS (Lib.trimLeftB s.data.toList 32) [32, 0]).toArray⟩
/-- The number in a field, and the error. -/
def readV (s : ByteArray) : Int × Int :=
  if s.size = 0 then (0, 3) else if 128 ≤ bt s 0 then (match wdR s with | some n => (n, 0) | none => (0, 2)) else od (cutF s) 0 0 (cutF s).size

/-! ### The cuts, byte by byte. -/
theorem bt_list {l : List UInt8} {k : Nat} (h : k < l.length) : bt ⟨l.toArray⟩ k = (l[k].toNat : Int) := by
  have h' : k < (⟨l.toArray⟩ : ByteArray).size := h
  rw [← get_bt ⟨l.toArray⟩ k h']
  rfl
def cutL (u : ByteArray) : List UInt8 := Lib.trimLeftB u.data.toList 32
def cutR (u : ByteArray) : List UInt8 := Lib.trimRightS u.data.toList [32, 0]
theorem cutF_two (s u v : ByteArray) (h : cutL s = u.data.toList) (k : cutR u = v.data.toList) : cutF s = v := by
  unfold cutF
  unfold cutL at h
  unfold cutR at k
  rw [h, k]
theorem cutL_step {u : ByteArray} (h : 0 < u.size) (hb : bt u 0 = 32) : cutL (u.extract 1 u.size) = cutL u := by
  obtain ⟨⟨l⟩⟩ := u
  cases l with
  | nil => exact absurd h (by decide)
  | cons x t =>
    rw [bt_list (by simp)] at hb
    have hx : x = 32 := UInt8.toNat_inj.1 (by simp at hb ⊢; omega)
    subst hx
    have e : ((⟨⟨32 :: t⟩⟩ : ByteArray).extract 1 (⟨⟨32 :: t⟩⟩ : ByteArray).size).data.toList = t := by
      rw [ByteArray.data_extract]
      simp [ByteArray.size]
    unfold cutL
    rw [e]
    simp [Lib.trimLeftB]
theorem cutL_stop {u : ByteArray} (h : u.size = 0 ∨ bt u 0 ≠ 32) : cutL u = u.data.toList := by
  obtain ⟨⟨l⟩⟩ := u
  cases l with
  | nil => rfl
  | cons x t =>
    rcases h with h | h
    · simp [ByteArray.size] at h
    · rw [bt_list (by simp)] at h
      have hx : (x == 32) = false := by
        rw [beq_eq_false_iff_ne]
        intro e
        subst e
        exact h rfl
      simp [cutL, Lib.trimLeftB, hx]
theorem snoc_of {l : List UInt8} (h : 0 < l.length) : ∃ (t : List UInt8) (x : UInt8), l = t ++ [x] := ⟨l.dropLast, l.getLast (by intro e; subst e; simp at h), (List.dropLast_concat_getLast _).symm⟩
theorem cutR_step {u : ByteArray} (h : 0 < u.size) (hb : bt u (u.size - 1) = 32 ∨ bt u (u.size - 1) = 0) : cutR (u.extract 0 (u.size - 1)) = cutR u := by
  obtain ⟨⟨l⟩⟩ := u
  obtain ⟨t, x, rfl⟩ := snoc_of (l := l) h
  have es : (⟨⟨t ++ [x]⟩⟩ : ByteArray).size - 1 = t.length := by simp [ByteArray.size]
  rw [es] at hb ⊢
  rw [bt_list (by simp)] at hb
  have hx : x = 32 ∨ x = 0 := by
    simp at hb
    rcases hb with hb | hb
    · left; exact UInt8.toNat_inj.1 (by simp; omega)
    · right; exact UInt8.toNat_inj.1 (by simp; omega)
  have e : ((⟨⟨t ++ [x]⟩⟩ : ByteArray).extract 0 t.length).data.toList = t := by
    rw [ByteArray.data_extract]
    simp
  unfold cutR
  rw [e]
  unfold Lib.trimRightS
  rcases hx with rfl | rfl <;> simp
theorem cutR_stop {u : ByteArray} (h : u.size = 0 ∨ (bt u (u.size - 1) ≠ 32 ∧ bt u (u.size - 1) ≠ 0)) : cutR u = u.data.toList := by
  obtain ⟨⟨l⟩⟩ := u
  cases hl : l with
  | nil => rfl
  | cons y r =>
    have hp : 0 < l.length := by rw [hl]; simp
    rw [← hl]
    clear hl
    obtain ⟨t, x, rfl⟩ := snoc_of hp
    rcases h with h | ⟨h1, h2⟩
    · simp [ByteArray.size] at h
    · have es : (⟨⟨t ++ [x]⟩⟩ : ByteArray).size - 1 = t.length := by simp [ByteArray.size]
      rw [es, bt_list (by simp)] at h1 h2
      simp at h1 h2
      have hx : ¬ (x = 32 ∨ x = 0) := by
        rintro (rfl | rfl)
        · exact h1 rfl
        · exact h2 rfl
      unfold cutR Lib.trimRightS
      simp only [List.reverse_append, List.reverse_singleton, List.singleton_append, List.dropWhile_cons]
      rw [if_neg (by simpa using hx)]
      simp
end Go.Proofs.YtiiaoagobjgkiaaGreatDoor
