/-
  A mode's change, in plain words. No program, no conditions.
-/
import Derived.PlainAid
import Derived.IntWalk
import Derived.Laws.BitsLemmas
namespace Go.Proofs.YtbofobakphlpbaaDoor
open Go.RowKit Go.PlainAid

/-- a without the bits of b. -/
def andn (a b : Nat) : Nat := a &&& (4095 ^^^ b)
theorem bit4095 (i : Nat) : Nat.testBit 4095 i = decide (i < 12) := Nat.testBit_two_pow_sub_one 12 i
theorem high0 {a i : Nat} (h : a < 4096) (hi : 12 ≤ i) : a.testBit i = false := Nat.testBit_lt_two_pow (Nat.lt_of_lt_of_le h (Nat.pow_le_pow_right (n := 2) (by decide) hi))
theorem andn_bit {a : Nat} (b i : Nat) (h : a < 4096) : (andn a b).testBit i = (a.testBit i && !b.testBit i) := by
  unfold andn
  rw [Nat.testBit_and, Nat.testBit_xor, bit4095]
  by_cases hi : i < 12
  · simp [hi]
  · rw [high0 h (by omega)]; simp
theorem andn_lt {a : Nat} (b : Nat) (h : a < 4096) : andn a b < 4096 := Nat.lt_of_le_of_lt Nat.and_le_left h
theorem or_lt {a b : Nat} (h : a < 4096) (hb : b < 4096) : a ||| b < 4096 := Nat.or_lt_two_pow (n := 12) h hb
theorem and_lt (a : Nat) {b : Nat} (hb : b < 4096) : a &&& b < 4096 := Nat.and_lt_two_pow (n := 12) a hb
theorem wraps12 (n : Int) (h₀ : 0 ≤ n) (h₁ : n < 2 ^ 12) : IntKind.i64.wrap n = n := by
  have : (2 : Int) ^ 12 = 4096 := by decide
  rw [IntKind.wrap_i64]; omega
theorem or12 {a b : Nat} (h : a < 4096) (hb : b < 4096) : bits .or .i64 a b = ((a ||| b : Nat) : Int) := (bits_nat .i64 12 (by decide) wraps12 a b h hb).2
theorem and12 {a b : Nat} (h : a < 4096) (hb : b < 4096) : bits .and .i64 a b = ((a &&& b : Nat) : Int) := (bits_nat .i64 12 (by decide) wraps12 a b h hb).1
theorem andn12 {a b : Nat} (h : a < 4096) (_ : b < 4096) : bits .andNot .i64 a b = ((andn a b : Nat) : Int) := by
  have e : (BitVec.ofInt 64 (a : Int) &&& ~~~BitVec.ofInt 64 (b : Int)) = BitVec.ofNat 64 (andn a b) := by
    apply BitVec.eq_of_getLsbD_eq
    intro i hi
    rw [BitVec.ofInt_natCast, BitVec.ofInt_natCast, BitVec.getLsbD_and, BitVec.getLsbD_not, BitVec.getLsbD_ofNat, BitVec.getLsbD_ofNat, BitVec.getLsbD_ofNat, andn_bit b i h]
    simp [hi]
  have hl := andn_lt b h
  show IntKind.i64.wrap ((BitVec.ofInt 64 (a : Int) &&& ~~~BitVec.ofInt 64 (b : Int)).toNat : Nat) = _
  rw [e, BitVec.toNat_ofNat, Nat.mod_eq_of_lt (by omega)]
  exact wraps12 _ (by omega) (by have : (2 : Int) ^ 12 = 4096 := by decide
                                 omega)

def whoN (c : UInt8) : Nat := if c = 117 then 2496 else if c = 103 then 1080 else if c = 111 then 519 else if c = 97 then 4095 else 0
def isWho (c : UInt8) : Bool := c == 117 || c == 103 || c == 111 || c == 97
def whatN (m : Nat) (dir : Bool) (c : UInt8) : Nat :=
  if c = 114 then 292 else if c = 119 then 146 else if c = 120 then 73 else if c = 88 then (if dir || !(m &&& 73 == 0) then 73 else 0) else if c = 115 then 3072 else if c = 116 then 512 else 0
def isWhat (c : UInt8) : Bool := c == 114 || c == 119 || c == 120 || c == 88 || c == 115 || c == 116
theorem whoN_lt (c : UInt8) : whoN c < 4096 := by unfold whoN; split <;> (try omega); split <;> (try omega); split <;> (try omega); split <;> omega
theorem whatN_lt (m : Nat) (dir : Bool) (c : UInt8) : whatN m dir c < 4096 := by
  unfold whatN
  repeat' split
  all_goals omega
/-- The union of what letters stand for. -/
def unionN (f : UInt8 → Nat) (l : List UInt8) : Nat := l.foldl (fun a c => a ||| f c) 0
theorem union_go {f : UInt8 → Nat} (hf : ∀ c, f c < 4096) : ∀ (l : List UInt8) (x : Nat), x < 4096 → l.foldl (fun a c => a ||| f c) x < 4096
  | [], _, h => h
  | c :: l, _, h => union_go hf l _ (or_lt h (hf c))
theorem union_lt {f : UInt8 → Nat} (hf : ∀ c, f c < 4096) (l : List UInt8) : unionN f l < 4096 := union_go hf l 0 (by omega)
theorem union_snoc (f : UInt8 → Nat) (l : List UInt8) (c : UInt8) : unionN f (l ++ [c]) = unionN f l ||| f c := by simp [unionN, List.foldl_append]
theorem union_or (f : UInt8 → Nat) : ∀ (l : List UInt8) (a : Nat), l.foldl (fun a c => a ||| f c) a = a ||| l.foldl (fun a c => a ||| f c) 0
  | [], a => by simp
  | c :: l, a => by
    simp only [List.foldl_cons]
    rw [union_or f l (a ||| f c), union_or f l (0 ||| f c), Nat.zero_or, Nat.or_assoc]
theorem union_zero {f : UInt8 → Nat} {p : UInt8 → Bool} (hp : ∀ c, p c = true → f c ≠ 0) {l : List UInt8} (hl : ∀ c ∈ l, p c = true) (h : unionN f l = 0) : l = [] := by
  cases l with
  | nil => rfl
  | cons c l =>
    exfalso
    have h1 : unionN f (c :: l) = f c ||| unionN f l := by
      unfold unionN
      rw [List.foldl_cons, union_or, Nat.zero_or]
    rw [h1] at h
    exact hp c (hl c (by simp)) (Nat.or_eq_zero_iff.1 h).1
theorem who_ne {c : UInt8} (h : isWho c = true) : whoN c ≠ 0 := by
  unfold isWho at h
  unfold whoN
  simp only [Bool.or_eq_true, beq_iff_eq] at h
  rcases h with ((rfl | rfl) | rfl) | rfl <;> decide
theorem who_not {c : UInt8} (h : isWho c = false) : whoN c = 0 := by
  unfold isWho at h
  simp only [Bool.or_eq_false_iff, beq_eq_false_iff_ne] at h
  unfold whoN
  rw [if_neg h.1.1.1, if_neg h.1.1.2, if_neg h.1.2, if_neg h.2]

/-- What one sign does to a mode. -/
def applyN (op : UInt8) (mask m bits : Nat) : Nat := if op = 43 then m ||| (bits &&& mask) else if op = 45 then andn m (bits &&& mask) else andn m mask ||| (bits &&& mask)
theorem apply_lt (op : UInt8) {mask m bits : Nat} (h1 : mask < 4096) (h2 : m < 4096) : applyN op mask m bits < 4096 := by
  unfold applyN
  split
  · exact or_lt h2 (and_lt _ h1)
  · split
    · exact andn_lt _ h2
    · exact or_lt (andn_lt _ h2) (and_lt _ h1)
/-- The same bit by bit, so many bits. -/
def rstep (op : UInt8) (mask got m : Nat) : Nat → Nat
  | 0 => m
  | k + 1 =>
    if (op == 43 && got.testBit k) || (op == 61 && mask.testBit k && got.testBit k) then rstep op mask got m k ||| 2 ^ k
    else if (op == 45 && got.testBit k) || (op == 61 && mask.testBit k) then andn (rstep op mask got m k) (2 ^ k)
    else rstep op mask got m k
theorem pow_lt {k : Nat} (h : k < 12) : 2 ^ k < 4096 := Nat.pow_lt_pow_right (a := 2) (n := 12) (by decide) h
theorem rstep_lt (op : UInt8) (mask got : Nat) {m : Nat} (h : m < 4096) : ∀ k, k ≤ 12 → rstep op mask got m k < 4096
  | 0, _ => h
  | k + 1, hk => by
    have ih := rstep_lt op mask got h k (by omega)
    unfold rstep
    split
    · exact or_lt ih (pow_lt (by omega))
    · split
      · exact andn_lt _ ih
      · exact ih
def tgt (op : UInt8) (mask got m j : Nat) : Bool :=
  if (op == 43 && got.testBit j) || (op == 61 && mask.testBit j && got.testBit j) then true
  else if (op == 45 && got.testBit j) || (op == 61 && mask.testBit j) then false else m.testBit j
theorem rstep_bit (op : UInt8) (mask got : Nat) {m : Nat} (h : m < 4096) (j : Nat) : ∀ k, k ≤ 12 → (rstep op mask got m k).testBit j = if j < k then tgt op mask got m j else m.testBit j
  | 0, _ => by simp [rstep]
  | k + 1, hk => by
    have ih := rstep_bit op mask got h j k (by omega)
    have hl := rstep_lt op mask got h k (by omega)
    unfold rstep
    by_cases e : j = k
    · subst e
      rw [if_neg (Nat.lt_irrefl j)] at ih
      rw [if_pos (Nat.lt_succ_self j)]
      unfold tgt
      split
      · rw [Nat.testBit_or, Nat.testBit_two_pow_self]; simp
      · split
        · rw [andn_bit _ _ hl, Nat.testBit_two_pow_self]; simp
        · exact ih
    · have e2 : (j < k + 1) = (j < k) := by
        have : j < k + 1 ↔ j < k := by omega
        exact propext this
      simp only [e2]
      rw [← ih]
      have hp : (2 ^ k).testBit j = false := Nat.testBit_two_pow_of_ne (fun h => e h.symm)
      split
      · rw [Nat.testBit_or, hp, Bool.or_false]
      · split
        · rw [andn_bit _ _ hl, hp]; simp
        · rfl
theorem apply43 (mask m b : Nat) : applyN 43 mask m b = m ||| (b &&& mask) := by unfold applyN; rw [if_pos rfl]
theorem apply45 (mask m b : Nat) : applyN 45 mask m b = andn m (b &&& mask) := by unfold applyN; rw [if_neg (by decide), if_pos rfl]
theorem apply61 (mask m b : Nat) : applyN 61 mask m b = andn m mask ||| (b &&& mask) := by unfold applyN; rw [if_neg (by decide), if_neg (by decide)]
theorem rstep_apply {op : UInt8} {mask m b : Nat} (hm : m < 4096) (hk : mask < 4096) (hop : (op == 43 || op == 45 || op == 61) = true) : rstep op mask (b &&& mask) m 12 = applyN op mask m b := by
  apply Nat.eq_of_testBit_eq
  intro j
  rw [rstep_bit op mask _ hm j 12 (by omega)]
  by_cases hj : j < 12
  · rw [if_pos hj]
    unfold tgt
    rw [Nat.testBit_and]
    simp only [Bool.or_eq_true, beq_iff_eq] at hop
    rcases hop with (rfl | rfl) | rfl
    · rw [apply43, Nat.testBit_or, Nat.testBit_and]
      cases m.testBit j <;> cases b.testBit j <;> cases mask.testBit j <;> rfl
    · rw [apply45, andn_bit _ _ hm, Nat.testBit_and]
      cases m.testBit j <;> cases b.testBit j <;> cases mask.testBit j <;> rfl
    · rw [apply61, Nat.testBit_or, andn_bit _ _ hm, Nat.testBit_and]
      cases m.testBit j <;> cases b.testBit j <;> cases mask.testBit j <;> rfl
  · rw [if_neg hj, high0 hm (by omega), high0 (apply_lt op hk hm) (by omega)]

theorem drop_len (p : UInt8 → Bool) (l : List UInt8) : (l.dropWhile p).length ≤ l.length := (List.dropWhile_sublist p).length_le
/-- The signs and their letters, applied one behind the other. -/
def opsV (mask : Nat) (dir : Bool) (m : Nat) (s : List UInt8) : Option Nat :=
  match s with
  | [] => some m
  | op :: r => if op == 43 || op == 45 || op == 61 then opsV mask dir (applyN op mask m (unionN (whatN m dir) (r.takeWhile isWhat))) (r.dropWhile isWhat) else none
termination_by s.length
decreasing_by
  have := drop_len isWhat r
  simp only [List.length_cons]
  omega
theorem opsV_nil (mask : Nat) (dir : Bool) (m : Nat) : opsV mask dir m [] = some m := by rw [opsV]
theorem opsV_cons (mask : Nat) (dir : Bool) (m : Nat) (op : UInt8) (r : List UInt8) : opsV mask dir m (op :: r) =
    if op == 43 || op == 45 || op == 61 then opsV mask dir (applyN op mask m (unionN (whatN m dir) (r.takeWhile isWhat))) (r.dropWhile isWhat) else none := by rw [opsV]
/-- Whom a part means. -/
def maskV (s : List UInt8) : Nat := if unionN whoN (s.takeWhile isWho) = 0 then 4095 else unionN whoN (s.takeWhile isWho)
theorem maskV_lt (s : List UInt8) : maskV s < 4096 := by
  unfold maskV
  split
  · omega
  · exact union_lt whoN_lt _
def partV (m : Nat) (dir : Bool) (s : List UInt8) : Option Nat := if s.dropWhile isWho = [] then none else opsV (maskV s) dir m (s.dropWhile isWho)
/-- All parts. -/
def allV (dir : Bool) : Nat → List (List UInt8) → Option Nat
  | m, [] => some m
  | m, p :: l => (partV m dir p).bind fun n => allV dir n l
theorem opsV_lt (mask : Nat) (dir : Bool) (hk : mask < 4096) : ∀ (n : Nat) (m : Nat) (s : List UInt8), s.length ≤ n → m < 4096 → ∀ x, opsV mask dir m s = some x → x < 4096
  | _, m, [], _, hm, x, h => by
    rw [opsV_nil] at h
    injection h with h
    omega
  | n + 1, m, op :: r, hl, hm, x, h => by
    rw [opsV_cons] at h
    split at h
    · refine opsV_lt mask dir hk n _ _ ?_ (apply_lt op hk hm) x h
      have := drop_len isWhat r
      simp only [List.length_cons] at hl
      omega
    · cases h
theorem partV_lt {m : Nat} {dir : Bool} {s : List UInt8} (hm : m < 4096) {x : Nat} (h : partV m dir s = some x) : x < 4096 := by
  unfold partV at h
  split at h
  · cases h
  · exact opsV_lt _ _ (maskV_lt s) _ m _ (Nat.le_refl _) hm x h
end Go.Proofs.YtbofobakphlpbaaDoor
