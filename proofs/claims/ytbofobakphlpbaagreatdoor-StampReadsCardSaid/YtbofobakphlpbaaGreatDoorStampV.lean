/-
  The time that a text is, in plain words. No program, no conditions.
-/
import Derived.Test.YtbofobakphlpbaaGreatDoorCutL
import Derived.Lib.SlTrimSet
namespace Go.Proofs.YtbofobakphlpbaaGreatDoor
open Go.RowKit

def dig (c : UInt8) : Bool := decide (48 ≤ c.toNat) && decide (c.toNat ≤ 57)
theorem dig_set (c : UInt8) : ([48, 49, 50, 51, 52, 53, 54, 55, 56, 57] : List UInt8).contains c = dig c := by
  have h : ∀ n, n < 256 → ([48, 49, 50, 51, 52, 53, 54, 55, 56, 57] : List UInt8).contains (UInt8.ofNat n) = dig (UInt8.ofNat n) := by decide +kernel
  have e : UInt8.ofNat c.toNat = c := UInt8.ofNat_toNat
  have := h c.toNat (UInt8.toNat_lt c)
  rwa [e] at this
theorem dw_nil {p : UInt8 → Bool} : ∀ l : List UInt8, l.dropWhile p = [] ↔ ∀ x ∈ l, p x = true
  | [] => by simp
  | a :: t => by
    rw [List.dropWhile_cons]
    cases h : p a with
    | true => simp [h, dw_nil t]
    | false => simp [h]
theorem tw_all {p : UInt8 → Bool} : ∀ l : List UInt8, ∀ x ∈ l.takeWhile p, p x = true
  | [], x, h => by simp at h
  | a :: t, x, h => by
    rw [List.takeWhile_cons] at h
    cases ha : p a with
    | true =>
      rw [ha, if_pos rfl, List.mem_cons] at h
      rcases h with rfl | h
      · exact ha
      · exact tw_all t x h
    | false => rw [ha] at h; simp at h
/-- Nothing is left of a text that is trimmed: all its bytes are of the set. -/
theorem trimS_nil (l cs : List UInt8) : (Lib.trimS l cs).isEmpty = l.all (cs.contains ·) := by
  rw [Bool.eq_iff_iff, List.isEmpty_iff, List.all_eq_true]
  unfold Lib.trimS Lib.trimLeftS Lib.trimRightS
  rw [dw_nil]
  constructor
  · intro h x hx
    have h1 : x ∈ l.reverse.takeWhile (cs.contains ·) ++ l.reverse.dropWhile (cs.contains ·) := by
      rw [List.takeWhile_append_dropWhile]
      exact List.mem_reverse.2 hx
    rcases List.mem_append.1 h1 with h2 | h2
    · exact tw_all _ x h2
    · exact h x (List.mem_reverse.2 h2)
  · intro h x hx
    have h1 := List.mem_reverse.1 hx
    exact h x (List.mem_reverse.1 ((List.dropWhile_sublist _).subset h1))

/-- What digits spell, behind what those before them spell. -/
def numL : Nat → List UInt8 → Nat
  | n, [] => n
  | n, c :: t => numL (n * 10 + (c.toNat - 48)) t
theorem numL_snoc (l : List UInt8) (n : Nat) (c : UInt8) : numL n (l ++ [c]) = numL n l * 10 + (c.toNat - 48) := by
  induction l generalizing n with
  | nil => rfl
  | cons x l ih => exact ih _
theorem numL_lt (l : List UInt8) (n : Nat) (h : l.all dig = true) : numL n l < (n + 1) * 10 ^ l.length := by
  induction l generalizing n with
  | nil => rw [List.length_nil, Nat.pow_zero, Nat.mul_one]; exact Nat.lt_succ_self n
  | cons c l ih =>
    rw [List.all_cons, Bool.and_eq_true] at h
    have ih := ih (n * 10 + (c.toNat - 48)) h.2
    have hc := h.1
    unfold dig at hc
    rw [Bool.and_eq_true, decide_eq_true_eq, decide_eq_true_eq] at hc
    show numL (n * 10 + (c.toNat - 48)) l < _
    rw [List.length_cons, Nat.pow_succ]
    refine Nat.lt_of_lt_of_le ih ?_
    rw [Nat.mul_comm (10 ^ l.length) 10, ← Nat.mul_assoc]
    exact Nat.mul_le_mul (by omega) (Nat.le_refl _)
theorem decFrom_num : ∀ (l : List UInt8) (n : Nat), l.all dig = true → Lib.decFrom n l = some (numL n l)
  | [], _, _ => rfl
  | c :: l, n, h => by
    rw [List.all_cons, Bool.and_eq_true] at h
    have hc := h.1
    unfold dig at hc
    rw [Bool.and_eq_true, decide_eq_true_eq, decide_eq_true_eq] at hc
    have hv : Lib.digitVal c = some (c.toNat - 48) := by unfold Lib.digitVal; rw [if_pos hc]
    show (match Lib.digitVal c with | some d => Lib.decFrom (n * 10 + d) l | none => none) = _
    rw [hv]
    exact decFrom_num l _ h.2
theorem atoi_num {l : List UInt8} (h : l.all dig = true) (hne : l ≠ []) : Lib.atoi l = some ((numL 0 l : Nat) : Int) := by
  cases l with
  | nil => exact absurd rfl hne
  | cons b r =>
    have hb := h
    rw [List.all_cons, Bool.and_eq_true] at hb
    have hc := hb.1
    unfold dig at hc
    rw [Bool.and_eq_true, decide_eq_true_eq, decide_eq_true_eq] at hc
    have n1 : (b == 45) = false := by
      rw [beq_eq_false_iff_ne]
      intro e
      rw [e] at hc
      exact absurd hc.1 (by decide)
    have n2 : (b == 43) = false := by
      rw [beq_eq_false_iff_ne]
      intro e
      rw [e] at hc
      exact absurd hc.1 (by decide)
    show (if (b == 45) = true then _ else if (b == 43) = true then _ else (Lib.decNat (b :: r)).map fun (m : Nat) => (m : Int)) = _
    rw [n1, n2]
    have e : Lib.decNat (b :: r) = some (numL 0 (b :: r)) := decFrom_num _ 0 h
    simp [e]

/-- The reference's search: where the point stands; none: a byte that is no digit's. -/
def scan : List UInt8 → Nat → Int → Option Int
  | [], _, p => some p
  | c :: t, i, p => if c == 46 && decide (p < 0) then scan t (i + 1) i else if dig c then scan t (i + 1) p else none
theorem scan_in : ∀ (l : List UInt8) (i : Nat) (p : Int), 0 ≤ p → scan l i p = if l.all dig then some p else none
  | [], _, _, _ => rfl
  | c :: t, i, p, h => by
    have ih := scan_in t (i + 1) p h
    have hp : decide (p < 0) = false := decide_eq_false (by omega)
    rw [scan, hp, Bool.and_false, if_neg (by decide), List.all_cons, ih]
    cases dig c <;> rfl
theorem scan_no : ∀ (l : List UInt8) (i : Nat), 46 ∉ l → scan l i (-1) = if l.all dig then some (-1) else none
  | [], _, _ => rfl
  | c :: t, i, h => by
    simp only [List.mem_cons, not_or] at h
    have ih := scan_no t (i + 1) h.2
    have hc : (c == 46) = false := by rw [beq_eq_false_iff_ne]; exact fun e => h.1 e.symm
    rw [scan, hc, Bool.false_and, if_neg (by decide), List.all_cons, ih]
    cases dig c <;> rfl
theorem scan_at : ∀ (a b : List UInt8) (i : Nat), 46 ∉ a → scan (a ++ 46 :: b) i (-1) = if a.all dig && b.all dig then some ((i + a.length : Nat) : Int) else none
  | [], b, i, _ => by
    have e : scan ([] ++ 46 :: b) i (-1) = scan b (i + 1) (i : Int) := rfl
    rw [e, scan_in b _ _ (by omega)]
    simp
  | c :: a, b, i, h => by
    simp only [List.mem_cons, not_or] at h
    have ih := scan_at a b (i + 1) h.2
    have hc : (c == 46) = false := by rw [beq_eq_false_iff_ne]; exact fun e => h.1 e.symm
    rw [List.cons_append, scan, hc, Bool.false_and, if_neg (by decide), List.all_cons, ih, List.length_cons, show i + 1 + a.length = i + (a.length + 1) by omega]
    cases dig c <;> simp

/-- A text without its sign: before and behind the point, and whether there is one. -/
def wholeS (u : List UInt8) : List UInt8 := (Lib.cut u [46]).1
def partS (u : List UInt8) : List UInt8 := (Lib.cut u [46]).2.1
def pointS (u : List UInt8) : Bool := (Lib.cut u [46]).2.2
def isD (l : List UInt8) : Bool := !l.isEmpty && l.all dig
def formS (u : List UInt8) : Bool := isD (wholeS u) && (!pointS u || isD (partS u))
theorem part_none {u : List UInt8} (h : pointS u = false) : partS u = [] := by
  unfold pointS at h
  unfold partS
  rcases cut_at u 46 with h1 | ⟨a, b, rfl, h1⟩
  · rw [cut_none h1]
  · rw [cut_app h1] at h; cases h
/-- What the reference's search tells. -/
theorem scan_cut (u : List UInt8) : (scan u 0 (-1) = none ∧ formS u = false) ∨ (scan u 0 (-1) = some (-1) ∧ pointS u = false ∧ wholeS u = u ∧ partS u = [] ∧ formS u = !u.isEmpty ∧ u.all dig = true) ∨
    ∃ p : Nat, scan u 0 (-1) = some (p : Int) ∧ pointS u = true ∧ wholeS u = u.take p ∧ partS u = u.drop (p + 1) ∧ p < u.length ∧ formS u = (!(wholeS u).isEmpty && !(partS u).isEmpty) ∧ (wholeS u).all dig = true ∧ (partS u).all dig = true := by
  rcases cut_at u 46 with h1 | ⟨a, b, rfl, h1⟩
  · have e := cut_none h1
    have e1 : wholeS u = u := by unfold wholeS; rw [e]
    have e2 : partS u = [] := by unfold partS; rw [e]
    have e3 : pointS u = false := by unfold pointS; rw [e]
    rw [scan_no u 0 h1]
    cases hd : u.all dig with
    | true => right; left; refine ⟨rfl, e3, e1, e2, ?_, rfl⟩; unfold formS isD; rw [e1, e3, hd]; simp
    | false => left; refine ⟨rfl, ?_⟩; unfold formS isD; rw [e1, hd]; simp
  · have e := cut_app (b := b) h1
    have e1 : wholeS (a ++ 46 :: b) = a := by unfold wholeS; rw [e]
    have e2 : partS (a ++ 46 :: b) = b := by unfold partS; rw [e]
    have e3 : pointS (a ++ 46 :: b) = true := by unfold pointS; rw [e]
    rw [scan_at a b 0 h1]
    cases hd : a.all dig && b.all dig with
    | true =>
      rw [Bool.and_eq_true] at hd
      right; right
      refine ⟨a.length, by simp, e3, ?_, ?_, by simp, ?_, by rw [e1]; exact hd.1, by rw [e2]; exact hd.2⟩
      · rw [e1]; simp
      · rw [e2, show a ++ 46 :: b = (a ++ [46]) ++ b by simp, show a.length + 1 = (a ++ [46]).length by simp, List.drop_left]
      · unfold formS isD; rw [e1, e2, e3, hd.1, hd.2]; simp
    | false =>
      left
      refine ⟨rfl, ?_⟩
      unfold formS isD
      rw [e1, e2, e3]
      rw [Bool.and_eq_false_iff] at hd
      rcases hd with h | h <;> rw [h] <;> simp

/-- Zeros ahead taken away; the reference leaves one. -/
def bareZ (l : List UInt8) : List UInt8 := l.dropWhile (· == 48)
def stripL (l : List UInt8) : List UInt8 := if bareZ l = [] then [48] else bareZ l
theorem strip_step {x : UInt8} {t : List UInt8} (h : x = 48) : stripL (x :: t) = stripL t := by
  subst h
  have e : bareZ (48 :: t) = bareZ t := rfl
  unfold stripL
  rw [e]
theorem strip_end {x : UInt8} {t : List UInt8} (h : t = [] ∨ x ≠ 48) (hd : (x :: t).all dig = true) : stripL (x :: t) = x :: t := by
  by_cases hx : x = 48
  · rcases h with rfl | h
    · subst hx; rfl
    · exact absurd hx h
  · have e : bareZ (x :: t) = x :: t := by
      unfold bareZ
      rw [List.dropWhile_cons, if_neg (by simpa using hx)]
    unfold stripL
    rw [e, if_neg (by simp)]
theorem bareZ_dig {l : List UInt8} (h : l.all dig = true) : (bareZ l).all dig = true := by
  rw [List.all_eq_true] at h ⊢
  intro x hx
  exact h x ((List.dropWhile_sublist _).subset hx)
theorem strip_num {l : List UInt8} (h : l.all dig = true) : (stripL l).all dig = true ∧ stripL l ≠ [] ∧ numL 0 (stripL l) = numL 0 (bareZ l) ∧ (decide (15 < (stripL l).length) = decide (15 < (bareZ l).length)) := by
  unfold stripL
  by_cases e : bareZ l = []
  · rw [if_pos e, e]
    exact ⟨by decide, by decide, by decide, by decide⟩
  · rw [if_neg e]
    exact ⟨bareZ_dig h, e, rfl, rfl⟩
theorem zero_num (l : List UInt8) : numL 0 (48 :: l) = numL 0 l := rfl

/-- The first nine digits behind the point, and whether more than zeros follow. -/
def nineL (p : List UInt8) : List UInt8 := (p ++ List.replicate 9 48).take 9
def moreL (p : List UInt8) : Bool := !(p.drop 9).all (· == 48)
/-- The digit at a place. -/
def digAt (p : List UInt8) (i : Nat) : Nat := if i < p.length then (p.getD i 0).toNat - 48 else 0
theorem nine_len (p : List UInt8) : (nineL p).length = 9 := by
  unfold nineL
  rw [List.length_take, List.length_append, List.length_replicate]
  omega
theorem nine_dig {p : List UInt8} (h : p.all dig = true) : (nineL p).all dig = true := by
  rw [List.all_eq_true] at h ⊢
  intro x hx
  unfold nineL at hx
  rcases List.mem_append.1 (List.mem_of_mem_take hx) with h1 | h1
  · exact h x h1
  · rw [List.eq_of_mem_replicate h1]; decide
theorem nine_lt {p : List UInt8} (h : p.all dig = true) : numL 0 (nineL p) < 1000000000 := by
  have := numL_lt (nineL p) 0 (nine_dig h)
  rw [nine_len] at this
  exact this
theorem nine_step (p : List UInt8) {i : Nat} (h : i < 9) : numL 0 ((nineL p).take (i + 1)) = numL 0 ((nineL p).take i) * 10 + digAt p i := by
  have hl : i < (nineL p).length := by rw [nine_len]; exact h
  rw [List.take_succ_eq_append_getElem hl, numL_snoc]
  congr 1
  have e : (nineL p)[i] = if i < p.length then p.getD i 0 else 48 := by
    have e0 : (nineL p)[i]? = some (if i < p.length then p.getD i 0 else 48) := by
      unfold nineL
      rw [List.getElem?_take, if_pos h, List.getElem?_append]
      by_cases h1 : i < p.length
      · rw [if_pos h1, if_pos h1, List.getD_eq_getElem?_getD, List.getElem?_eq_getElem h1]
        rfl
      · rw [if_neg h1, if_neg h1, List.getElem?_replicate, if_pos (by omega)]
    rw [List.getElem?_eq_getElem hl] at e0
    injection e0
  rw [e]
  unfold digAt
  split <;> rfl
theorem nine_small (p : List UInt8) (h : p.all dig = true) (i : Nat) : numL 0 ((nineL p).take i) < 1000000000 := by
  have h1 : ((nineL p).take i).all dig = true := by
    have := nine_dig h
    rw [List.all_eq_true] at this ⊢
    exact fun x hx => this x (List.mem_of_mem_take hx)
  have h2 := numL_lt _ 0 h1
  have h3 : ((nineL p).take i).length ≤ 9 := by rw [List.length_take, nine_len]; omega
  have h4 : 10 ^ ((nineL p).take i).length ≤ 10 ^ 9 := Nat.pow_le_pow_right (by decide) h3
  omega
/-- More than zeros among the digits from the tenth on, up to a place. -/
def moreAt (p : List UInt8) (i : Nat) : Bool := !((p.take i).drop 9).all (· == 48)
theorem more_none (p : List UInt8) {i : Nat} (h : i ≤ 9) : moreAt p i = false := by
  unfold moreAt
  rw [List.drop_eq_nil_of_le (by rw [List.length_take]; omega)]
  rfl
theorem more_step {p : List UInt8} (hd : p.all dig = true) {i : Nat} (h : 9 ≤ i) (hl : i < p.length) : moreAt p (i + 1) = (moreAt p i || decide (0 < digAt p i)) := by
  unfold moreAt
  rw [List.take_succ_eq_append_getElem hl, List.drop_append_of_le_length (by rw [List.length_take]; omega), List.all_append, Bool.not_and]
  congr 1
  have hx : dig p[i] = true := (List.all_eq_true.1 hd) _ (List.getElem_mem hl)
  unfold dig at hx
  rw [Bool.and_eq_true, decide_eq_true_eq, decide_eq_true_eq] at hx
  have e : digAt p i = p[i].toNat - 48 := by
    unfold digAt
    rw [if_pos hl, List.getD_eq_getElem?_getD, List.getElem?_eq_getElem hl]
    rfl
  rw [e, List.all_cons, List.all_nil, Bool.and_true]
  by_cases h48 : p[i] = 48
  · rw [h48]; decide
  · have : p[i].toNat ≠ 48 := fun e => h48 (UInt8.toNat_inj.1 e)
    have h1 : (p[i] == 48) = false := by rw [beq_eq_false_iff_ne]; exact h48
    rw [h1, decide_eq_true (by omega)]
    rfl
theorem more_all {p : List UInt8} {i : Nat} (h : p.length ≤ i) : moreAt p i = moreL p := by
  unfold moreAt moreL
  rw [List.take_of_length_le h]

/-- The time: seconds and nanoseconds, below 0 or not. -/
def secS (neg : Bool) (sec nano : Nat) (more : Bool) : Int := if neg then (if 0 < nano + more.toNat then -(sec : Int) - 1 else -(sec : Int)) else sec
def nanoS (neg : Bool) (nano : Nat) (more : Bool) : Int := if neg then (if 0 < nano + more.toNat then 1000000000 - ((nano + more.toNat : Nat) : Int) else 0) else nano
end Go.Proofs.YtbofobakphlpbaaGreatDoor
