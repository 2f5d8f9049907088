/-
  show's small functions and the reference's: a number with at least so many digits, the letter of a kind, a text or a number. No conditions but the numbers' bounds.
-/
import Derived.Test.YtbofobakphlpbaaDoorItoa
import Derived.Test.YtbofobakphlpbaaDoorBytes
import Derived.PlainAid
namespace Go.Proofs.YtbofobakphlpbaaDoor
open Go.RowKit Go.WideShapes Go.PlainAid

def zerosB (k : Nat) : ByteArray := ⟨(Lib.repeatL [48] k).toArray⟩
def decB (n : Nat) : ByteArray := ⟨(Lib.decDigits n).toArray⟩
def padNat (n d : Nat) : ByteArray := zerosB (d - (Lib.decDigits n).length) ++ decB n
def padInt (n : Int) (d : Nat) : ByteArray := if n < 0 then ⟨#[45]⟩ ++ padNat n.natAbs (d - 1) else padNat n.toNat d
theorem decB_size (n : Nat) : (decB n).size = (Lib.decDigits n).length := by
  show (Lib.decDigits n).toArray.size = _
  simp
theorem zerosB_size (k : Nat) : (zerosB k).size = k := by
  show (Lib.repeatL [48] k).toArray.size = _
  rw [List.size_toArray, Lib.repeatL_length]
  simp
theorem nDig_le (n : Nat) (h : n < 10000000000) : Lib.nDigits n ≤ 10 := by
  have key : ∀ (k n : Nat), n < 10 ^ (k + 1) → Lib.nDigits n ≤ k + 1 := by
    intro k
    induction k with
    | zero => intro n h; rw [Lib.nDigits_small (by simpa using h)]; omega
    | succ k ih =>
      intro n h
      by_cases h2 : n < 10
      · rw [Lib.nDigits_small h2]; omega
      · rw [Lib.nDigits_big h2]
        have := ih (n / 10) (by rw [Nat.pow_succ] at h; exact Nat.div_lt_of_lt_mul (by rw [Nat.mul_comm]; exact h))
        omega
  exact key 9 n h
set_option maxHeartbeats 1600000 in
set_option maxRecDepth 100000 in
theorem paddedN_any (n d : Nat) (hn : n < 10000000000) (hd : d ≤ 10) (w : World) (ht : HasPow w) : Calls Tryd.prog 34 #[.int .i64 (n : Int), .int .i64 (d : Int)] w fun e w' => e = .returned (.string (padNat n d)) ∧ Ext w w' := by
  have C1 := Lib.hid (fun w ht => itoa_nat n (by omega) w ht)
  have hl := nDig_le n hn
  rw [← Lib.decDigits_length] at hl
  obtain ⟨L, hL⟩ : ∃ L, L = (Lib.decDigits n).length := ⟨_, rfl⟩
  have hz := decB_size n
  have hv : Hid (padNat n d = zerosB (d - L) ++ decB n) := Lib.hid (by unfold padNat; rw [hL])
  rw [← hL] at hl hz
  have hk : Hid (max 0 ((d : Int) - (L : Int)) = ((d - L : Nat) : Int)) := Lib.hid (by omega)
  have hD10 : (decB n).size ≤ 10 := by omega
  have C2 := Lib.hid (fun w => Tryd.strings_Repeat ⟨#[48]⟩ (d - L) w (by omega) (by show 1 * _ ≤ _; omega))
  have hzz := zerosB_size (d - L)
  have hzd : Hid ((⟨(Lib.repeatL [48] (d - L)).toArray⟩ : ByteArray) = zerosB (d - L)) := Lib.hid rfl
  have hdd : Hid ((⟨(Lib.decDigits n).toArray⟩ : ByteArray) = decB n) := Lib.hid rfl
  rw [hdd.out] at C1
  generalize decB n = D at *
  clear hdd hL
  go_enter Tryd.func34, Tryd.ntmps34
  go_wp2_with fail
  refine (C1.out _ ht).mono ?_; rintro e w1 ⟨rfl, hx1⟩
  go_wp2_with fail
  rw [hk.out]
  refine (C2.out _).mono ?_; rintro e w2 ⟨rfl, hx2⟩
  rw [hzd.out]
  go_wp2_with fail
  go_ret
  exact ⟨ret_val (by rw [hv.out] <;> rfl), hx1.trans hx2⟩
set_option maxRecDepth 100000 in
theorem padded_any (n : Int) (d : Nat) (hn0 : -1000000000 < n) (hn1 : n < 1000000000) (hd : d ≤ 10) (hd1 : 1 ≤ d) (w : World) (ht : HasPow w) : Calls Tryd.prog 34 #[.int .i64 n, .int .i64 (d : Int)] w fun e w' => e = .returned (.string (padInt n d)) ∧ Ext w w' := by
  by_cases h : n < 0
  · have C := Lib.hid (paddedN_any n.natAbs (d - 1) (by omega) (by omega))
    have e1 : ((n.natAbs : Nat) : Int) = -n := by omega
    have e2 : ((d - 1 : Nat) : Int) = (d : Int) - 1 := by omega
    have hz : (padNat n.natAbs (d - 1)).size ≤ 20 := by
      unfold padNat
      rw [ByteArray.size_append, zerosB_size, decB_size]
      have := nDig_le n.natAbs (by omega)
      rw [← Lib.decDigits_length] at this
      omega
    have hv : Hid (padInt n d = ⟨#[45]⟩ ++ padNat n.natAbs (d - 1)) := Lib.hid (by unfold padInt; rw [if_pos h])
    rw [e1, e2] at C
    generalize padNat n.natAbs (d - 1) = P at *
    clear e1 e2
    go_enter Tryd.func34, Tryd.ntmps34
    go_wp2_with fail
    refine (C.out w ht).mono ?_; rintro e w1 ⟨rfl, hx1⟩
    go_wp2_with fail
    go_ret
    exact ⟨ret_val (by rw [hv.out] <;> rfl), hx1⟩
  · obtain ⟨m, rfl⟩ := Int.eq_ofNat_of_zero_le (show 0 ≤ n by omega)
    have := paddedN_any m d (by omega) hd w ht
    have hv : padInt (m : Int) d = padNat m d := by unfold padInt; rw [if_neg h]; rfl
    rw [hv]
    exact this

/-- The letter of a kind. -/
def letB (k : Int) : ByteArray := if k < 48 ∨ 54 < k then ⟨#[63]⟩ else (⟨#[45, 104, 108, 99, 98, 100, 112]⟩ : ByteArray).extract (k - 48).toNat ((k - 48).toNat + 1)
theorem letB_size (k : Int) : (letB k).size ≤ 1 := by
  unfold letB
  split
  · decide
  · rw [ByteArray.size_extract]; omega
set_option maxRecDepth 100000 in
theorem letter_any (k : Int) (h0 : 0 ≤ k) (h1 : k ≤ 255) (w : World) : Calls Tryd.prog 35 #[.int .u8 k] w fun e w' => e = .returned (.string (letB k)) ∧ Ext w w' := by
  by_cases h : k < 48 ∨ 54 < k
  · have hv : Hid (letB k = ⟨#[63]⟩) := Lib.hid (by unfold letB; rw [if_pos h])
    rcases (show decide (k < 48) = true ∨ (decide (k < 48) = false ∧ decide (54 < k) = true) by
      by_cases h2 : k < 48
      · exact .inl (decide_eq_true h2)
      · exact .inr ⟨decide_eq_false h2, decide_eq_true (by omega)⟩) with q | ⟨q, q2⟩
    all_goals
      clear h
      go_enter Tryd.func35, Tryd.ntmps35
      go_wp2_with fail
      go_ret
      exact ⟨ret_val (by rw [hv.out] <;> rfl), (by show Below _ _ _; repeat' (first | (with_reducible exact Below.refl _ _) | (with_reducible assumption) | (with_reducible refine belowDrewN ?_ _) | (with_reducible refine Below.alloc ?_ ?_ _) | (with_reducible refine Below.drew ?_) | (with_reducible refine Below.setCell ?_ ?_ _) | go_size))⟩
  · obtain ⟨j, hj⟩ : ∃ j : Nat, k = (j : Int) + 48 := ⟨(k - 48).toNat, by omega⟩
    subst hj
    have hj6 : j ≤ 6 := by omega
    have hv : Hid (letB ((j : Int) + 48) = (⟨#[45, 104, 108, 99, 98, 100, 112]⟩ : ByteArray).extract j (j + 1)) := Lib.hid (by
      unfold letB
      rw [if_neg h, show ((j : Int) + 48 - 48).toNat = j by omega])
    rcases (show j = 0 ∨ j = 1 ∨ j = 2 ∨ j = 3 ∨ j = 4 ∨ j = 5 ∨ j = 6 by omega) with rfl | rfl | rfl | rfl | rfl | rfl | rfl
    all_goals
      go_enter Tryd.func35, Tryd.ntmps35
      go_wp2_with fail
      go_ret
      exact ⟨ret_val (by rw [hv.out]; rfl), (by show Below _ _ _; repeat' (first | (with_reducible exact Below.refl _ _) | (with_reducible assumption) | (with_reducible refine belowDrewN ?_ _) | (with_reducible refine Below.alloc ?_ ?_ _) | (with_reducible refine Below.drew ?_) | (with_reducible refine Below.setCell ?_ ?_ _) | go_size))⟩

/-- A text, or a number. -/
def orB (s : ByteArray) (n : Int) : ByteArray := if s.toList.isEmpty then ⟨(Lib.itoa n).toArray⟩ else s
set_option maxRecDepth 100000 in
theorem or_any (s : ByteArray) (n : Int) (h0 : -9223372036854775808 ≤ n) (h1 : n ≤ 9223372036854775807) (w : World) (ht : HasPow w) : Calls Tryd.prog 37 #[.string s, .int .i64 n] w fun e w' => e = .returned (.string (orB s n)) ∧ Ext w w' := by
  have C := Lib.hid (itoa_any n h0 h1)
  have hv : Hid (orB s n = if s.toList.isEmpty then ⟨(Lib.itoa n).toArray⟩ else s) := Lib.hid rfl
  cases he : s.toList.isEmpty
  · have He := Lib.hid he
    go_enter Tryd.func37, Tryd.ntmps37
    go_wp2_with fail
    go_ret
    exact ⟨ret_val (by rw [hv.out, He.out]; rfl), (by show Below _ _ _; repeat' (first | (with_reducible exact Below.refl _ _) | (with_reducible assumption) | (with_reducible refine belowDrewN ?_ _) | (with_reducible refine Below.alloc ?_ ?_ _) | (with_reducible refine Below.drew ?_) | (with_reducible refine Below.setCell ?_ ?_ _) | go_size))⟩
  · have He := Lib.hid he
    go_enter Tryd.func37, Tryd.ntmps37
    go_wp2_with fail
    refine (C.out w ht).mono ?_; rintro e w1 ⟨rfl, hx1⟩
    go_wp2_with fail
    go_ret
    exact ⟨ret_val (by rw [hv.out, He.out]; rfl), hx1⟩
/-- Two digits, the reference's way. -/
theorem two_dec : ∀ n, n < 100 → (Lib.decDigits (100 + n)).drop 1 = (padNat n 2).data.toList ∧ (Lib.decDigits (100 + n)).length = 3 := by decide +kernel
end Go.Proofs.YtbofobakphlpbaaDoor
