/-
  number.Octal: a number as octal digits and a byte 0.
-/
import Derived.Test.YtbofobakphlpbaaGreatDoorBinRef
import Derived.Test.YtbofobakphlpbaaGreatDoorMost
import Derived.Test.YtbofobakphlpbaaGreatDoorOctV
import Derived.Test.YtbofobakphlpbaaGreatDoorShelf
namespace Go.Proofs.YtbofobakphlpbaaGreatDoor
open Go.RowKit Go.PlainAid

/-- Which error, and the text. -/
def octE (n W : Int) : Int := if W < 2 ∨ 20 < W then 1 else if n < 0 ∨ mostI W < n then 2 else 0
def octV (n : Int) (W : Nat) : ByteArray := ⟨(oct n (W - 1) ++ [0]).toArray⟩
def octS (n W : Int) : ByteArray := if octE n W = 0 then octV n W.toNat else ⟨#[]⟩

/-- The buffer behind so many rounds. -/
def obuf (W : Nat) (n : Int) (k : Nat) : Array Value := (List.replicate (W - 1 - k) (Value.int .u8 0) ++ ((oct n k).map u8v ++ [Value.int .u8 0])).toArray
theorem obuf_size (W : Nat) (n : Int) (k : Nat) (h : k + 1 ≤ W) : (obuf W n k).size = W := by simp [obuf, oct_length]; omega
theorem obuf_set (W : Nat) (n : Int) (k : Nat) (h : k + 2 ≤ W) : (obuf W n k).setIfInBounds (W - 2 - k) (.int .u8 (48 + o8 n k % 8)) = obuf W n (k + 1) := by
  have e : W - 1 - k = (W - 2 - k) + 1 := by omega
  have e2 : W - 1 - (k + 1) = W - 2 - k := by omega
  unfold obuf
  rw [e, e2, List.setIfInBounds_toArray, List.replicate_succ', List.append_assoc, List.set_append_right _ _ (by simp)]
  simp [oct, u8v, dg_int]
theorem obuf_start (W : Nat) (n : Int) (h : 1 ≤ W) : madeCells #[Value.int .u8 0] W = obuf W n 0 := by
  have e : obuf W n 0 = Array.replicate W (Value.int .u8 0) := by
    obtain ⟨m, rfl⟩ : ∃ m, W = m + 1 := ⟨W - 1, by omega⟩
    have : obuf (m + 1) n 0 = (List.replicate m (Value.int .u8 0) ++ [Value.int .u8 0]).toArray := by simp [obuf, oct]
    rw [this, ← List.replicate_succ']
    simp
  rw [e]
  apply Array.ext
  · simp [size_madeCells]
  · intro i h1 h2
    simp [madeCells, Nat.mod_one]
theorem obuf_end (W : Nat) (n : Int) (k : Nat) (h : W = k + 1) : obuf W n k = ((oct n k ++ [0]).map u8v).toArray := by
  subst h
  simp [obuf, u8v]

set_option maxHeartbeats 1600000 in
set_option maxRecDepth 100000 in
theorem octal_good (n : Int) (W : Nat) (w : World) (h1 : 2 ≤ W) (h2 : W ≤ 20) (h0 : 0 ≤ n) (hm : n ≤ mostI (W : Int)) (hn : n ≤ 9223372036854775807) : Calls Tryz.prog 95 #[.int .i64 n, .int .i64 (W : Int)] w fun e w' => e = .returned (.tuple #[.string (octV n W), .nilIface]) ∧ Ext w w' := by
  have q1 : decide ((W : Int) < 2) = false := decide_eq_false (by omega)
  have q2 : decide ((20 : Int) < (W : Int)) = false := decide_eq_false (by omega)
  have q3 : decide (n < 0) = false := decide_eq_false (by omega)
  have q4 : decide (mostI (W : Int) < n) = false := decide_eq_false (by omega)
  have C1 := Lib.hid (fun w => most_any (W : Int) w)
  have hmk := run_make_row' (P := Tryz.prog) 113 5 (.int .u8 0) 1 Tryz.underlying113 infoU8 rfl .i64 .i64 W (by omega) (by omega)
  rw [obuf_start W n (by omega)] at hmk
  have hsz : 0 < W := by omega
  clear hm
  generalize mostI (W : Int) = mm at *
  go_enter Tryz.func95, Tryz.ntmps95
  go_wp2_with fail
  refine (C1.out _).mono ?_; rintro e w1 ⟨rfl, hx1⟩
  go_wp2_with fail
  go_loopw [0, 28] (fun m i w' => ∃ k : Nat, k < W ∧ m = .int .i64 (o8 n k) ∧ i = .int .i64 (k : Int) ∧ w' = w1.alloc (.cells (obuf W n k) 5)) (fun _ i _ => (W - intOf i).toNat)
  case atStart => exact ⟨0, hsz, rfl, rfl, rfl⟩
  case round =>
    obtain ⟨k, hk, rfl, rfl, rfl⟩ := hrel
    have hbs := obuf_size W n k (by omega)
    have l0 := o8_lo h0 k
    have l1 := o8_hi h0 k
    by_cases hlt : (k : Int) < (W : Int) - 1
    · have i0 : 0 ≤ (W : Int) - 2 - (k : Int) := by omega
      have i1 : (W : Int) - 2 - (k : Int) < (W : Int) := by omega
      have it : ((W : Int) - 2 - (k : Int)).toNat = W - 2 - k := by omega
      have hin : W - 2 - k < W := by omega
      have Hst := Lib.hid (obuf_set W n k (by omega))
      have ho : Hid (o8 n (k + 1) = o8 n k / 8) := Lib.hid rfl
      have hd0 : 0 ≤ 48 + o8 n k % 8 := by omega
      have hd1 : 48 + o8 n k % 8 ≤ 255 := by omega
      go_wp2_with fail
      go_roundw
      case rel => exact ⟨k + 1, by omega, by rw [ho.out], by go_num, by rw [Hst.out]⟩
      case measure => simp [intOf]; omega
    · have hk1 : W = k + 1 := by omega
      have hend := obuf_end W n k hk1
      have hc2 := conv_cells w1 _ (oct n k ++ [0]) W (by rw [List.length_append, oct_length]; simp; omega) hend
      have hv : Hid (octV n W = ⟨(oct n k ++ [0]).toArray⟩) := Lib.hid (by unfold octV; rw [show W - 1 = k by omega])
      clear hend hk1
      go_wp2_with fail
      go_ret2
      exact ⟨ret_val (by rw [hv.out]; rfl), hx1.trans (by show Below _ _ _; repeat' (first | (with_reducible exact Below.refl _ _) | (with_reducible assumption) | (with_reducible refine belowDrewN ?_ _) | (with_reducible refine Below.alloc ?_ ?_ _) | (with_reducible refine Below.drew ?_) | (with_reducible refine Below.setCell ?_ ?_ _) | go_size))⟩

set_option maxRecDepth 100000 in
theorem octal_arg (n W : Int) (w : World) (h : W < 2 ∨ 20 < W) :
    Calls Tryz.prog 95 #[.int .i64 n, .int .i64 W] w fun e w' => e = .returned (.tuple #[.string ⟨#[]⟩, .iface 23 (.int .i64 1)]) ∧ Ext w w' := by
  rcases (show decide (W < 2) = true ∨ (decide (W < 2) = false ∧ decide (20 < W) = true) by simp; omega) with q1 | ⟨q1, q2⟩ <;> clear h
  all_goals
    go_enter Tryz.func95, Tryz.ntmps95
    go_wp2_with fail
    go_ret2
    exact ⟨rfl, (by show Below _ _ _; repeat' (first | (with_reducible exact Below.refl _ _) | (with_reducible assumption) | (with_reducible refine belowDrewN ?_ _) | (with_reducible refine Below.alloc ?_ ?_ _) | (with_reducible refine Below.drew ?_) | (with_reducible refine Below.setCell ?_ ?_ _) | go_size))⟩
set_option maxRecDepth 100000 in
theorem octal_range (n : Int) (W : Int) (w : World) (h1 : 2 ≤ W) (h2 : W ≤ 20) (h : n < 0 ∨ mostI W < n) :
    Calls Tryz.prog 95 #[.int .i64 n, .int .i64 W] w fun e w' => e = .returned (.tuple #[.string ⟨#[]⟩, .iface 23 (.int .i64 2)]) ∧ Ext w w' := by
  have q1 : decide (W < 2) = false := decide_eq_false (by omega)
  have q2 : decide (20 < W) = false := decide_eq_false (by omega)
  have C1 := Lib.hid (fun w => most_any W w)
  by_cases hn : n < 0
  · have q3 : decide (n < 0) = true := decide_eq_true hn
    clear h
    go_enter Tryz.func95, Tryz.ntmps95
    go_wp2_with fail
    go_ret2
    exact ⟨rfl, (by show Below _ _ _; repeat' (first | (with_reducible exact Below.refl _ _) | (with_reducible assumption) | (with_reducible refine belowDrewN ?_ _) | (with_reducible refine Below.alloc ?_ ?_ _) | (with_reducible refine Below.drew ?_) | (with_reducible refine Below.setCell ?_ ?_ _) | go_size))⟩
  · have q3 : decide (n < 0) = false := decide_eq_false hn
    have q4 : decide (mostI W < n) = true := decide_eq_true (by omega)
    clear h
    generalize mostI W = mm at *
    go_enter Tryz.func95, Tryz.ntmps95
    go_wp2_with fail
    refine (C1.out _).mono ?_; rintro e w1 ⟨rfl, hx1⟩
    go_wp2_with fail
    go_ret2
    exact ⟨rfl, hx1⟩

/-! ### The reference -/
theorem itoa8 (v : Int) (h0 : 0 ≤ v) (h1 : v < 8) (w : World) : Calls Tryz.prog 117 #[.int .i64 v] w fun e w' => e = .returned (.string ⟨#[UInt8.ofNat (48 + v).toNat]⟩) ∧ w' = w := by
  obtain ⟨k, rfl⟩ := Int.eq_ofNat_of_zero_le h0
  have := Tryz.strconv_Itoa_small k (by omega) w
  rw [Lib.decDigits, dif_pos (by omega)] at this
  refine this.mono ?_
  rintro e w' ⟨rfl, hw⟩
  exact ⟨by rw [show (48 + (k : Int)).toNat = 48 + k by omega], hw⟩
theorem rep48 (c : Int) (h0 : 0 ≤ c) (h1 : c ≤ 100) (w : World) : Calls Tryz.prog 55 #[.string ⟨#[48]⟩, .int .i64 c] w fun e w' => e = .returned (.string ⟨(List.replicate c.toNat (48 : UInt8)).toArray⟩) ∧ Ext w w' := by
  obtain ⟨k, rfl⟩ := Int.eq_ofNat_of_zero_le h0
  have := Tryz.strings_Repeat ⟨#[48]⟩ k w (by omega) (by show 1 * _ ≤ _; omega)
  have e := Lib.repeatL_replicate 48 1 k
  have e2 : Lib.repeatL (⟨#[48]⟩ : ByteArray).data.toList k = List.replicate k 48 := by
    show Lib.repeatL [48] k = _
    rw [show [(48 : UInt8)] = List.replicate 1 48 from rfl, e, Nat.mul_one]
  rw [e2] at this
  exact this

/-- Between two rounds of the reference. -/
def OrRel (n : Int) (s m : Value) (w wr : World) : Prop := ∃ k : Nat, k ≤ 22 ∧ s = .string ⟨(oct n k).toArray⟩ ∧ m = .int .i64 (o8 n k) ∧ Hid (k = 0 ∨ 0 < o8 n (k - 1)) ∧ wr = w
theorem digits_few {n : Int} {k : Nat} (h0 : 0 ≤ n) (hn : n ≤ 9223372036854775807) (h : 0 < o8 n k) : k ≤ 20 := by
  have h1 : ¬ n < ((8 ^ k : Nat) : Int) := (not_congr (o8_pow n h0 k)).1 (by omega)
  rcases Nat.lt_or_ge 20 k with h2 | h2
  · exfalso
    have h3 : 8 ^ 21 ≤ 8 ^ k := Nat.pow_le_pow_right (by decide) (by omega)
    have h4 : (8 : Nat) ^ 21 = 9223372036854775808 := by decide
    omega
  · exact h2
theorem octE_short {n : Int} {W k : Nat} (h1 : 2 ≤ W) (h2 : W ≤ 20) (h0 : 0 ≤ n) (hk : o8 n k = 0) (hl : k ≤ W - 1) : octE n W = 0 ∧ octV n W = ⟨(List.replicate (W - 1 - k) 48 ++ (oct n k ++ [0])).toArray⟩ := by
  have e0 : o8 n (W - 1) = 0 := by rw [show W - 1 = k + (W - 1 - k) by omega]; exact o8_zero hk _
  have e1 := (o8_pow n h0 (W - 1)).1 e0
  constructor
  · unfold octE mostI
    rw [if_neg (by omega), if_neg, ]
    rw [if_pos ⟨by omega, by omega⟩, show ((W : Int) - 1).toNat = W - 1 by omega]
    show ¬ (n < 0 ∨ ((8 ^ (W - 1) : Nat) : Int) - 1 < n)
    omega
  · unfold octV
    have := oct_pad hk (W - 1 - k)
    rw [show k + (W - 1 - k) = W - 1 by omega] at this
    rw [this, List.append_assoc]
theorem octE_long {n : Int} {W k : Nat} (h1 : 2 ≤ W) (h2 : W ≤ 20) (h0 : 0 ≤ n) (hk : k = 0 ∨ 0 < o8 n (k - 1)) (hl : W - 1 < k) : octE n W = 2 := by
  have e1 : ¬ o8 n (W - 1) = 0 := fun e => by
    have := o8_zero e (k - 1 - (W - 1))
    rw [show W - 1 + (k - 1 - (W - 1)) = k - 1 by omega] at this
    omega
  have e2 := (not_congr (o8_pow n h0 (W - 1))).1 e1
  unfold octE mostI
  rw [if_neg (by omega), if_pos]
  rw [if_pos ⟨by omega, by omega⟩, show ((W : Int) - 1).toNat = W - 1 by omega]
  show (n < 0 ∨ ((8 ^ (W - 1) : Nat) : Int) - 1 < n)
  omega
theorem str_app (a b : List UInt8) : (⟨a.toArray⟩ : ByteArray) ++ ⟨b.toArray⟩ = ⟨(a ++ b).toArray⟩ := by
  apply ByteArray.ext
  simp

set_option maxHeartbeats 1600000 in
set_option maxRecDepth 100000 in
theorem refOctal_good (n : Int) (W : Nat) (w : World) (h1 : 2 ≤ W) (h2 : W ≤ 20) (h0 : 0 ≤ n) (hn : n ≤ 9223372036854775807) : Calls Tryz.prog 92 #[.int .i64 n, .int .i64 (W : Int)] w fun e w' => e = .returned (.tuple #[.string (octS n W), .int .i64 (octE n W)]) ∧ Ext w w' := by
  have g1 : (2 : Int) ≤ (W : Int) := by omega
  have g2 : (W : Int) ≤ 20 := by omega
  have q3 : decide (n < 0) = false := decide_eq_false (by omega)
  go_enter Tryz.func92, Tryz.ntmps92
  go_wp2_with ((with_reducible refine (within_yes' g1 g2 _).mono ?_); rintro e w' ⟨rfl, hw⟩; subst w')
  go_loopw [6, 7] (fun s m wr => OrRel n s m w wr) (fun _ m _ => (intOf m).toNat)
  case atStart => exact ⟨0, by omega, rfl, rfl, Lib.hid (.inl rfl), rfl⟩
  case round =>
    obtain ⟨k, hk, rfl, rfl, hmin, rfl⟩ := hrel
    have l0 := o8_lo h0 k
    have l1 := o8_hi h0 k
    have hsl : (⟨(oct n k).toArray⟩ : ByteArray).size = k := by show (oct n k).toArray.size = k; simp [oct_length]
    by_cases hlt : 0 < o8 n k
    · have hk20 := digits_few h0 hn hlt
      have ho : Hid (o8 n (k + 1) = o8 n k / 8) := Lib.hid rfl
      have hd : Hid (oct n (k + 1) = UInt8.ofNat (48 + o8 n k % 8).toNat :: oct n k) := Lib.hid rfl
      have hms : o8 n k / 8 < o8 n k := by omega
      have C1 := Lib.hid (fun w => itoa8 (o8 n k % 8) (by omega) (by omega) w)
      have Hm : Hid (k + 1 = 0 ∨ 0 < o8 n (k + 1 - 1)) := Lib.hid (.inr hlt)
      go_wp2_with ((with_reducible refine (C1.out _).mono ?_); rintro e w' ⟨rfl, hw⟩; subst w')
      go_roundw
      case rel => exact ⟨k + 1, by omega, congrArg Value.string (by rw [hd.out]; exact str_cons _ _), by rw [ho.out], Hm, rfl⟩
      case measure => simp [intOf]; omega
    · have hz : o8 n k = 0 := by omega
      have Hz := Lib.hid hz
      by_cases hl : (W : Int) - 1 < (k : Int)
      · have hE := octE_long h1 h2 h0 hmin.out (show W - 1 < k by omega)
        have e1 : Hid (octE n W = 2) := Lib.hid hE
        have e2 : Hid (octS n W = ⟨#[]⟩) := Lib.hid (by unfold octS; rw [hE]; rfl)
        have q5 : decide ((W : Int) - 1 < (k : Int)) = true := decide_eq_true hl
        clear hE hz
        go_wp2_with fail
        go_ret2
        exact ⟨ret_val (by rw [e1.out, e2.out]; rfl), (by show Below _ _ _; repeat' (first | (with_reducible exact Below.refl _ _) | (with_reducible assumption) | (with_reducible refine belowDrewN ?_ _) | (with_reducible refine Below.alloc ?_ ?_ _) | (with_reducible refine Below.drew ?_) | (with_reducible refine Below.setCell ?_ ?_ _) | go_size))⟩
      · obtain ⟨hE, hV⟩ := octE_short h1 h2 h0 hz (show k ≤ W - 1 by omega)
        have e1 : Hid (octE n W = 0) := Lib.hid hE
        have e2 : Hid (octS n W = ⟨(List.replicate (W - 1 - k) 48 ++ (oct n k ++ [0])).toArray⟩) := Lib.hid (by unfold octS; rw [hE]; simpa using hV)
        have q5 : decide ((W : Int) - 1 < (k : Int)) = false := decide_eq_false hl
        have C2 := Lib.hid (rep48 ((W : Int) - 1 - (k : Int)) (by omega) (by omega))
        have e3 : Hid (((W : Int) - 1 - (k : Int)).toNat = W - 1 - k) := Lib.hid (by omega)
        have hsz2 : (⟨(List.replicate ((W : Int) - 1 - (k : Int)).toNat (48 : UInt8)).toArray⟩ : ByteArray).size ≤ 20 := by
          show (List.replicate ((W : Int) - 1 - (k : Int)).toNat (48 : UInt8)).toArray.size ≤ 20
          simp; omega
        clear hE hV hz
        generalize hR : (⟨(List.replicate ((W : Int) - 1 - (k : Int)).toNat (48 : UInt8)).toArray⟩ : ByteArray) = R at *
        have HR := Lib.hid hR
        clear hR
        go_wp2_with ((with_reducible refine (C2.out _).mono ?_); rintro e w1 ⟨rfl, hx1⟩)
        go_ret2
        exact ⟨ret_val (by rw [e1.out, e2.out, ← str_app, ← str_app, ← e3.out, HR.out, ← ByteArray.append_assoc]; rfl), hx1⟩
set_option maxRecDepth 100000 in
theorem refOctal_arg (n W : Int) (w : World) (h : W < 2 ∨ 20 < W) :
    Calls Tryz.prog 92 #[.int .i64 n, .int .i64 W] w fun e w' => e = .returned (.tuple #[.string ⟨#[]⟩, .int .i64 1]) ∧ Ext w w' := by
  have c1 := within_no' (n := W) (low := 2) (high := 20) h
  clear h
  go_enter Tryz.func92, Tryz.ntmps92
  go_wp2_with ((refine (c1 _).mono ?_); rintro e w' ⟨rfl, hw⟩; subst w')
  go_ret2
  exact ⟨rfl, (by show Below _ _ _; repeat' (first | (with_reducible exact Below.refl _ _) | (with_reducible assumption) | (with_reducible refine belowDrewN ?_ _) | (with_reducible refine Below.alloc ?_ ?_ _) | (with_reducible refine Below.drew ?_) | (with_reducible refine Below.setCell ?_ ?_ _) | go_size))⟩
set_option maxRecDepth 100000 in
theorem refOctal_neg (n W : Int) (w : World) (h1 : 2 ≤ W) (h2 : W ≤ 20) (hn : n < 0) :
    Calls Tryz.prog 92 #[.int .i64 n, .int .i64 W] w fun e w' => e = .returned (.tuple #[.string ⟨#[]⟩, .int .i64 2]) ∧ Ext w w' := by
  have q3 : decide (n < 0) = true := decide_eq_true hn
  go_enter Tryz.func92, Tryz.ntmps92
  go_wp2_with ((with_reducible refine (within_yes' h1 h2 _).mono ?_); rintro e w' ⟨rfl, hw⟩; subst w')
  refine wp_loop_rounds 1 ?_
  rw [rounds_succ]
  go_wp2_with fail
  go_ret2
  exact ⟨rfl, (by show Below _ _ _; repeat' (first | (with_reducible exact Below.refl _ _) | (with_reducible assumption) | (with_reducible refine belowDrewN ?_ _) | (with_reducible refine Below.alloc ?_ ?_ _) | (with_reducible refine Below.drew ?_) | (with_reducible refine Below.setCell ?_ ?_ _) | go_size))⟩

/-- All ways in one word. -/
theorem octal_any (n W : Int) (hn2 : n ≤ 9223372036854775807) (w : World) : Calls Tryz.prog 95 #[.int .i64 n, .int .i64 W] w fun e w' => e = .returned (.tuple #[.string (octS n W), errOf (octE n W)]) ∧ Ext w w' := by
  by_cases h : W < 2 ∨ 20 < W
  · have e1 : octE n W = 1 := by unfold octE; rw [if_pos h]
    have e2 : octS n W = ⟨#[]⟩ := by unfold octS; rw [e1]; rfl
    rw [e1, e2]; exact octal_arg n W w h
  · obtain ⟨W, rfl⟩ := Int.eq_ofNat_of_zero_le (show 0 ≤ W by omega)
    by_cases h2 : n < 0 ∨ mostI (W : Int) < n
    · have e1 : octE n W = 2 := by unfold octE; rw [if_neg h, if_pos h2]
      have e2 : octS n W = ⟨#[]⟩ := by unfold octS; rw [e1]; rfl
      rw [e1, e2]; exact octal_range n W w (by omega) (by omega) h2
    · have e1 : octE n W = 0 := by unfold octE; rw [if_neg h, if_neg h2]
      have e2 : octS n W = octV n W := by unfold octS; rw [if_pos e1]; rfl
      rw [e1, e2]; exact octal_good n W w (by omega) (by omega) (by omega) (by omega) hn2
theorem refOctal_any (n W : Int) (hn2 : n ≤ 9223372036854775807) (w : World) : Calls Tryz.prog 92 #[.int .i64 n, .int .i64 W] w fun e w' => e = .returned (.tuple #[.string (octS n W), .int .i64 (octE n W)]) ∧ Ext w w' := by
  by_cases h : W < 2 ∨ 20 < W
  · have e1 : octE n W = 1 := by unfold octE; rw [if_pos h]
    have e2 : octS n W = ⟨#[]⟩ := by unfold octS; rw [e1]; rfl
    rw [e1, e2]; exact refOctal_arg n W w h
  · obtain ⟨W, rfl⟩ := Int.eq_ofNat_of_zero_le (show 0 ≤ W by omega)
    by_cases h2 : n < 0
    · have e1 : octE n W = 2 := by unfold octE; rw [if_neg h, if_pos (.inl h2)]
      have e2 : octS n W = ⟨#[]⟩ := by unfold octS; rw [e1]; rfl
      rw [e1, e2]; exact refOctal_neg n W w (by omega) (by omega) h2
    · exact refOctal_good n W w (by omega) (by omega) (by omega) hn2
theorem octS_size (n W : Int) (h : octE n W = 0) : ((octS n W).size : Int) = W := by
  have hW : 2 ≤ W := by unfold octE at h; split at h <;> omega
  unfold octS
  rw [if_pos h]
  show (((oct n (W.toNat - 1) ++ [0]).toArray.size : Nat) : Int) = W
  simp [oct_length]
  omega
theorem octS_le (n W : Int) : (octS n W).size ≤ 20 := by
  by_cases h : octE n W = 0
  · have h1 := octS_size n W h
    have : W ≤ 20 := by unfold octE at h; split at h <;> omega
    omega
  · unfold octS; rw [if_neg h]; decide
end Go.Proofs.YtbofobakphlpbaaGreatDoor
