/-
  A text cut at its first byte of a kind; what a numeral reads as. No program, no conditions.
-/
import Derived.PlainAid
import Derived.Lib.IndexBytes
import Derived.Lib.CutLaws
import Derived.Lib.Atoi
import Derived.Lib.ItoaNum
namespace Go.Proofs.YtbofobakphlpbaaDoor
open Go.RowKit

theorem ixb_none : ∀ {l : List UInt8} {c : UInt8}, c ∉ l → Lib.indexByte l c = -1
  | [], _, _ => rfl
  | b :: l, c, h => by
    simp only [List.mem_cons, not_or] at h
    have ih := ixb_none h.2
    have hb : (b == c) = false := by rw [beq_eq_false_iff_ne]; exact fun e => h.1 e.symm
    show (if (b == c) = true then (0 : Int) else if (Lib.indexByte l c == -1) = true then -1 else Lib.indexByte l c + 1) = _
    rw [hb, ih]
    rfl
theorem ixb_app : ∀ {a : List UInt8} {c : UInt8} {b : List UInt8}, c ∉ a → Lib.indexByte (a ++ c :: b) c = (a.length : Int)
  | [], c, b, _ => by simp [Lib.indexByte]
  | x :: a, c, b, h => by
    simp only [List.mem_cons, not_or] at h
    have ih := ixb_app (b := b) h.2
    have hb : (x == c) = false := by rw [beq_eq_false_iff_ne]; exact fun e => h.1 e.symm
    have hne : ((a.length : Int) == -1) = false := by rw [beq_eq_false_iff_ne]; omega
    show (if (x == c) = true then (0 : Int) else if (Lib.indexByte (a ++ c :: b) c == -1) = true then -1 else Lib.indexByte (a ++ c :: b) c + 1) = _
    rw [hb, ih, hne]
    simp
theorem cut_at (l : List UInt8) (c : UInt8) : c ∉ l ∨ ∃ a b, l = a ++ c :: b ∧ c ∉ a := by
  by_cases h : c ∈ l
  · obtain ⟨a, b, h1, h2⟩ := List.eq_append_cons_of_mem h
    exact .inr ⟨a, b, h1, h2⟩
  · exact .inl h
theorem cut_none {l : List UInt8} {c : UInt8} (h : c ∉ l) : Lib.cut l [c] = (l, [], false) := by
  unfold Lib.cut
  rw [Lib.index_one, ixb_none h, if_neg (by omega)]
theorem cut_app {a : List UInt8} {c : UInt8} {b : List UInt8} (h : c ∉ a) : Lib.cut (a ++ c :: b) [c] = (a, b, true) := by
  unfold Lib.cut
  rw [Lib.index_one, ixb_app h, if_pos (by omega)]
  have e : ((a.length : Int).toNat + [c].length) = (a ++ [c]).length := by simp
  have e2 : a ++ c :: b = (a ++ [c]) ++ b := by simp
  rw [e]
  refine Prod.ext ?_ (Prod.ext ?_ rfl)
  · simp
  · show List.drop (a ++ [c]).length (a ++ c :: b) = b
    rw [e2, List.drop_left]
/-- Two texts that are cut alike. -/
theorem app_cons_inj {a a' b b' : List UInt8} {c : UInt8} (h : c ∉ a) (h' : c ∉ a') (e : a ++ c :: b = a' ++ c :: b') : a = a' ∧ b = b' := by
  have h1 := cut_app (b := b) h
  rw [e, cut_app h'] at h1
  injection h1 with h2 h3
  injection h3 with h4 _
  exact ⟨h2.symm, h4.symm⟩

theorem decFrom_snoc : ∀ (l : List UInt8) (acc m d : Nat) (b : UInt8), Lib.decFrom acc l = some m → Lib.digitVal b = some d → Lib.decFrom acc (l ++ [b]) = some (m * 10 + d)
  | [], acc, m, d, b, h, hd => by
    simp only [Lib.decFrom, Option.some.injEq] at h
    subst h
    simp [Lib.decFrom, hd]
  | x :: l, acc, m, d, b, h, hd => by
    simp only [Lib.decFrom] at h
    cases hx : Lib.digitVal x with
    | none => rw [hx] at h; cases h
    | some y =>
      rw [hx] at h
      have ih := decFrom_snoc l _ m d b h hd
      simp only [List.cons_append, Lib.decFrom, hx]
      exact ih
theorem digit_byte (n : Nat) (h : n < 10) : (UInt8.ofNat (48 + n)).toNat = 48 + n := by
  rw [UInt8.toNat_ofNat']
  omega
theorem digit_val (n : Nat) (h : n < 10) : Lib.digitVal (UInt8.ofNat (48 + n)) = some n := by
  unfold Lib.digitVal
  rw [digit_byte n h, if_pos (by omega)]
  congr 1
  omega
theorem decFrom_digits (n : Nat) : Lib.decFrom 0 (Lib.decDigits n) = some n := by
  induction n using Nat.strongRecOn with
  | ind n ih =>
    by_cases h : n < 10
    · rw [Lib.decDigits_one h]
      show (match Lib.digitVal (UInt8.ofNat (48 + n)) with | some d => Lib.decFrom (0 * 10 + d) [] | none => none) = _
      rw [digit_val n h]
      simp [Lib.decFrom]
    · have e : Lib.decDigits n = Lib.decDigits (n / 10) ++ [UInt8.ofNat (48 + n % 10)] := by rw [Lib.decDigits, dif_neg h]
      rw [e, decFrom_snoc _ _ _ _ _ (ih (n / 10) (by omega)) (digit_val (n % 10) (by omega))]
      congr 1
      omega
theorem digits_mem (n : Nat) : ∀ c ∈ Lib.decDigits n, 48 ≤ c.toNat ∧ c.toNat ≤ 57 := by
  induction n using Nat.strongRecOn with
  | ind n ih =>
    by_cases h : n < 10
    · rw [Lib.decDigits_one h]
      intro c hc
      rw [List.mem_singleton] at hc
      rw [hc, digit_byte n h]
      omega
    · have e : Lib.decDigits n = Lib.decDigits (n / 10) ++ [UInt8.ofNat (48 + n % 10)] := by rw [Lib.decDigits, dif_neg h]
      rw [e]
      intro c hc
      rcases List.mem_append.1 hc with hc | hc
      · exact ih (n / 10) (by omega) c hc
      · rw [List.mem_singleton] at hc
        rw [hc, digit_byte (n % 10) (by omega)]
        omega
theorem digits_ne (n : Nat) : Lib.decDigits n ≠ [] := by
  intro e
  have h := decFrom_digits n
  have h2 : (Lib.decDigits n).length = 0 := by rw [e]; rfl
  rw [Lib.decDigits_length] at h2
  have := Lib.nDigits_pos n
  omega
theorem digits_inj {m n : Nat} (h : Lib.decDigits m = Lib.decDigits n) : m = n := by
  have h1 := decFrom_digits m
  rw [h, decFrom_digits n] at h1
  injection h1 with h1
  exact h1.symm
theorem atoi_digits (n : Nat) : Lib.atoi (Lib.decDigits n) = some (n : Int) := by
  have h1 := digits_mem n
  have h2 := digits_ne n
  have h3 := decFrom_digits n
  cases hl : Lib.decDigits n with
  | nil => exact absurd hl h2
  | cons b r =>
    rw [hl] at h1 h3
    have hb := h1 b (by simp)
    have n1 : (b == 45) = false := by
      rw [beq_eq_false_iff_ne]
      intro e
      rw [e] at hb
      exact absurd hb.1 (by decide)
    have n2 : (b == 43) = false := by
      rw [beq_eq_false_iff_ne]
      intro e
      rw [e] at hb
      exact absurd hb.1 (by decide)
    show (if (b == 45) = true then _ else if (b == 43) = true then _ else (Lib.decNat (b :: r)).map fun (m : Nat) => (m : Int)) = _
    rw [n1, n2]
    have e : Lib.decNat (b :: r) = some n := h3
    simp [e]
end Go.Proofs.YtbofobakphlpbaaDoor
