/-
  mode.Parse: nine letters as a mode.
-/
import Derived.Test.YtedcibjnnihhfaaDoorBytes
import Derived.Test.YtedcibjnnihhfaaDoorParseV
import Derived.Test.YtedcibjnnihhfaaDoorBare
import Derived.Laws.BitsAllLaws
import Derived.Laws.BitsLemmas
namespace Go.Proofs.YtedcibjnnihhfaaDoor
open Go.RowKit Go.PlainAid

theorem ofInt_i64 (a : Nat) (ha : a < 9223372036854775808) : (BitVec.ofInt 64 (a : Int)).toNat = a := by
  rw [BitVec.ofInt_natCast, BitVec.toNat_ofNat]; exact Nat.mod_eq_of_lt (by omega)
theorem i64_or_nat (a b : Nat) (ha : a < 9223372036854775808) (hb : b < 9223372036854775808) : bits .or .i64 (a : Int) (b : Int) = ((a ||| b : Nat) : Int) := by
  have hx : a ||| b < 2 ^ 63 := Nat.or_lt_two_pow (by omega) (by omega)
  show IntKind.i64.wrap ((BitVec.ofInt 64 (a : Int) ||| BitVec.ofInt 64 (b : Int)).toNat : Int) = _
  rw [BitVec.toNat_or, ofInt_i64 a ha, ofInt_i64 b hb, IntKind.wrap_i64]
  omega
theorem okTo_succ {l : List UInt8} {k : Nat} (h : okTo l k) (hk : parseI k (atI l k) ≠ none) : okTo l (k + 1) := fun j hj => by
  rcases Nat.lt_succ_iff_lt_or_eq.1 hj with h' | rfl
  · exact h j h'
  · exact hk
theorem atI_bt (s : ByteArray) (k : Nat) (h : k < s.size) : atI s.data.toList k = bt s k := by
  have h' : k < s.data.toList.length := by simpa using h
  unfold atI
  rw [List.getD_eq_getElem?_getD, List.getElem?_eq_getElem h', Option.getD_some, ← get_bt s k h]
  rfl

set_option maxHeartbeats 8000000 in
set_option maxRecDepth 100000 in
theorem modeParse_good (s : ByteArray) (w : World) (h9 : s.size = 9) : Calls Tryd.prog 24 #[.string s] w fun e w' => e = .returned (.tuple #[.int .i64 (mrV s.data.toList), errOf (mrE s.data.toList)]) ∧ Ext w w' := by
  have q9 : ((s.size : Int) != 9) = false := by simp [h9]
  have H9 := Lib.hid h9
  have u9 : (s.size : Int) ≤ 9 := by omega
  have l0 : (0 : Int) < s.size := by omega
  clear h9
  go_enter Tryd.func24, Tryd.ntmps24
  go_wp2_with fail
  go_loopw [4, 16] (fun m i wr => ∃ k : Nat, k ≤ 9 ∧ m = .int .i64 (accN s.data.toList k : Int) ∧ i = .int .i64 (k : Int) ∧ Hid (okTo s.data.toList k) ∧ wr = w) (fun _ i _ => (9 - intOf i).toNat)
  case atStart => exact ⟨0, by omega, rfl, rfl, Lib.hid (fun j hj => by omega), rfl⟩
  case round =>
    obtain ⟨k, hk, rfl, rfl, hok, rfl⟩ := hrel
    have hacc := accN_lt s.data.toList k
    have hstep : Hid (accN s.data.toList (k + 1) = accN s.data.toList k ||| bitsI k (atI s.data.toList k)) := Lib.hid rfl
    rcases (show k = 0 ∨ k = 1 ∨ k = 2 ∨ k = 3 ∨ k = 4 ∨ k = 5 ∨ k = 6 ∨ k = 7 ∨ k = 8 ∨ k = 9 by omega) with rfl | rfl | rfl | rfl | rfl | rfl | rfl | rfl | rfl | rfl
    · have hz : Hid (0 < s.size) := Lib.hid (by rw [H9.out]; decide)
      have hat : Hid (atI s.data.toList 0 = bt s 0) := Lib.hid (atI_bt s 0 hz.out)
      have e0 : (0 : Int) < s.size := by have := H9.out; omega
      have n0 : 0 < s.size := hz.out
      have hL : ∀ h, (((⟨#[114, 119, 120, 114, 119, 120, 114, 119, 120]⟩ : ByteArray)[0]'h).toNat : Int) = 114 := fun _ => rfl
      have hM : ∀ h, (((⟨#[115, 115, 116]⟩ : ByteArray)[0]'h).toNat : Int) = 115 := fun _ => rfl
      have hbi : ((s[0]).toNat : Int) = bt s 0 := get_bt s 0 hz.out
      generalize ha : accN s.data.toList 0 = a at *
      have Ha := Lib.hid ha
      have Hacc := Lib.hid hacc
      clear ha hacc
      generalize hc : bt s 0 = c at *
      have Hc := Lib.hid hc
      clear hc
      rcases (show c = 45 ∨ c = 114 ∨ (c ≠ 45 ∧ c ≠ 114) by omega) with h | h | h
      · subst h
        have hp : Hid (parseI 0 (atI s.data.toList 0) = some (false, false)) := Lib.hid (by rw [hat.out]; decide)
        have hbits : Hid (bitsI 0 (atI s.data.toList 0) = 0) := Lib.hid (by unfold bitsI; rw [hp.out]; decide)
        have hnew : Hid (accN s.data.toList 1 = a ||| 0) := Lib.hid (by have h := hstep.out; rw [hbits.out] at h; exact h)
        go_wp2_with fail
        go_roundw
        case rel => exact ⟨1, by omega, by rw [hnew.out, Nat.or_zero], rfl, Lib.hid (okTo_succ hok.out (by rw [hp.out]; simp)), trivial⟩
        case measure => simp [intOf]
      · subst h
        have hp : Hid (parseI 0 (atI s.data.toList 0) = some (true, false)) := Lib.hid (by rw [hat.out]; decide)
        have hbits : Hid (bitsI 0 (atI s.data.toList 0) = 256) := Lib.hid (by unfold bitsI; rw [hp.out]; decide)
        have hnew : Hid (accN s.data.toList 1 = a ||| 256) := Lib.hid (by have h := hstep.out; rw [hbits.out] at h; exact h)
        have hor : bits .or .i64 (a : Int) 256 = ((a ||| 256 : Nat) : Int) := i64_or_nat a 256 (by have := Hacc.out; omega) (by decide)
        go_wp2_with fail
        go_roundw
        case rel => exact ⟨1, by omega, by rw [hnew.out], rfl, Lib.hid (okTo_succ hok.out (by rw [hp.out]; simp)), trivial⟩
        case measure => simp [intOf]
      · obtain ⟨g0, g1⟩ := h
        have r0 : (c == 45) = false := by rw [beq_eq_false_iff_ne]; exact g0
        have r1 : (c == 114) = false := by rw [beq_eq_false_iff_ne]; exact g1
        have hp : Hid (parseI 0 (atI s.data.toList 0) = none) := Lib.hid (by
          rw [hat.out]
          unfold parseI
          rw [if_neg g0, if_neg (by rw [show ltrI 0 = 114 from rfl]; exact g1), if_neg (fun h => absurd h.1 (by decide)), if_neg (fun h => absurd h.1 (by decide))])
        have ev : Hid (mrV s.data.toList = 0 ∧ mrE s.data.toList = 3) := Lib.hid (mr_bad fun h => h.2 0 (by omega) hp.out)
        clear g0 g1
        go_wp2_with fail
        go_ret2
        exact ⟨ret_val (by rw [ev.out.1, ev.out.2]; rfl), (by show Below _ _ _; repeat' (first | (with_reducible exact Below.refl _ _) | (with_reducible assumption) | (with_reducible refine belowDrewN ?_ _) | (with_reducible refine Below.alloc ?_ ?_ _) | (with_reducible refine Below.drew ?_) | (with_reducible refine Below.setCell ?_ ?_ _) | go_size))⟩
    · have hz : Hid (1 < s.size) := Lib.hid (by rw [H9.out]; decide)
      have hat : Hid (atI s.data.toList 1 = bt s 1) := Lib.hid (atI_bt s 1 hz.out)
      have e1 : (1 : Int) < s.size := by have := H9.out; omega
      have n1 : 1 < s.size := hz.out
      have hL : ∀ h, (((⟨#[114, 119, 120, 114, 119, 120, 114, 119, 120]⟩ : ByteArray)[1]'h).toNat : Int) = 119 := fun _ => rfl
      have hM : ∀ h, (((⟨#[115, 115, 116]⟩ : ByteArray)[0]'h).toNat : Int) = 115 := fun _ => rfl
      have hbi : ((s[1]).toNat : Int) = bt s 1 := get_bt s 1 hz.out
      generalize ha : accN s.data.toList 1 = a at *
      have Ha := Lib.hid ha
      have Hacc := Lib.hid hacc
      clear ha hacc
      generalize hc : bt s 1 = c at *
      have Hc := Lib.hid hc
      clear hc
      rcases (show c = 45 ∨ c = 119 ∨ (c ≠ 45 ∧ c ≠ 119) by omega) with h | h | h
      · subst h
        have hp : Hid (parseI 1 (atI s.data.toList 1) = some (false, false)) := Lib.hid (by rw [hat.out]; decide)
        have hbits : Hid (bitsI 1 (atI s.data.toList 1) = 0) := Lib.hid (by unfold bitsI; rw [hp.out]; decide)
        have hnew : Hid (accN s.data.toList 2 = a ||| 0) := Lib.hid (by have h := hstep.out; rw [hbits.out] at h; exact h)
        go_wp2_with fail
        go_roundw
        case rel => exact ⟨2, by omega, by rw [hnew.out, Nat.or_zero], rfl, Lib.hid (okTo_succ hok.out (by rw [hp.out]; simp)), trivial⟩
        case measure => simp [intOf]
      · subst h
        have hp : Hid (parseI 1 (atI s.data.toList 1) = some (true, false)) := Lib.hid (by rw [hat.out]; decide)
        have hbits : Hid (bitsI 1 (atI s.data.toList 1) = 128) := Lib.hid (by unfold bitsI; rw [hp.out]; decide)
        have hnew : Hid (accN s.data.toList 2 = a ||| 128) := Lib.hid (by have h := hstep.out; rw [hbits.out] at h; exact h)
        have hor : bits .or .i64 (a : Int) 128 = ((a ||| 128 : Nat) : Int) := i64_or_nat a 128 (by have := Hacc.out; omega) (by decide)
        go_wp2_with fail
        go_roundw
        case rel => exact ⟨2, by omega, by rw [hnew.out], rfl, Lib.hid (okTo_succ hok.out (by rw [hp.out]; simp)), trivial⟩
        case measure => simp [intOf]
      · obtain ⟨g0, g1⟩ := h
        have r0 : (c == 45) = false := by rw [beq_eq_false_iff_ne]; exact g0
        have r1 : (c == 119) = false := by rw [beq_eq_false_iff_ne]; exact g1
        have hp : Hid (parseI 1 (atI s.data.toList 1) = none) := Lib.hid (by
          rw [hat.out]
          unfold parseI
          rw [if_neg g0, if_neg (by rw [show ltrI 1 = 119 from rfl]; exact g1), if_neg (fun h => absurd h.1 (by decide)), if_neg (fun h => absurd h.1 (by decide))])
        have ev : Hid (mrV s.data.toList = 0 ∧ mrE s.data.toList = 3) := Lib.hid (mr_bad fun h => h.2 1 (by omega) hp.out)
        clear g0 g1
        go_wp2_with fail
        go_ret2
        exact ⟨ret_val (by rw [ev.out.1, ev.out.2]; rfl), (by show Below _ _ _; repeat' (first | (with_reducible exact Below.refl _ _) | (with_reducible assumption) | (with_reducible refine belowDrewN ?_ _) | (with_reducible refine Below.alloc ?_ ?_ _) | (with_reducible refine Below.drew ?_) | (with_reducible refine Below.setCell ?_ ?_ _) | go_size))⟩
    · have hz : Hid (2 < s.size) := Lib.hid (by rw [H9.out]; decide)
      have hat : Hid (atI s.data.toList 2 = bt s 2) := Lib.hid (atI_bt s 2 hz.out)
      have e2 : (2 : Int) < s.size := by have := H9.out; omega
      have n2 : 2 < s.size := hz.out
      have hL : ∀ h, (((⟨#[114, 119, 120, 114, 119, 120, 114, 119, 120]⟩ : ByteArray)[2]'h).toNat : Int) = 120 := fun _ => rfl
      have hM : ∀ h, (((⟨#[115, 115, 116]⟩ : ByteArray)[0]'h).toNat : Int) = 115 := fun _ => rfl
      have hbi : ((s[2]).toNat : Int) = bt s 2 := get_bt s 2 hz.out
      generalize ha : accN s.data.toList 2 = a at *
      have Ha := Lib.hid ha
      have Hacc := Lib.hid hacc
      clear ha hacc
      generalize hc : bt s 2 = c at *
      have Hc := Lib.hid hc
      clear hc
      rcases (show c = 45 ∨ c = 120 ∨ c = 115 ∨ c = 83 ∨ (c ≠ 45 ∧ c ≠ 120 ∧ c ≠ 115 ∧ c ≠ 83) by omega) with h | h | h | h | h
      · subst h
        have hp : Hid (parseI 2 (atI s.data.toList 2) = some (false, false)) := Lib.hid (by rw [hat.out]; decide)
        have hbits : Hid (bitsI 2 (atI s.data.toList 2) = 0) := Lib.hid (by unfold bitsI; rw [hp.out]; decide)
        have hnew : Hid (accN s.data.toList 3 = a ||| 0) := Lib.hid (by have h := hstep.out; rw [hbits.out] at h; exact h)
        go_wp2_with fail
        go_roundw
        case rel => exact ⟨3, by omega, by rw [hnew.out, Nat.or_zero], rfl, Lib.hid (okTo_succ hok.out (by rw [hp.out]; simp)), trivial⟩
        case measure => simp [intOf]
      · subst h
        have hp : Hid (parseI 2 (atI s.data.toList 2) = some (true, false)) := Lib.hid (by rw [hat.out]; decide)
        have hbits : Hid (bitsI 2 (atI s.data.toList 2) = 64) := Lib.hid (by unfold bitsI; rw [hp.out]; decide)
        have hnew : Hid (accN s.data.toList 3 = a ||| 64) := Lib.hid (by have h := hstep.out; rw [hbits.out] at h; exact h)
        have hor : bits .or .i64 (a : Int) 64 = ((a ||| 64 : Nat) : Int) := i64_or_nat a 64 (by have := Hacc.out; omega) (by decide)
        go_wp2_with fail
        go_roundw
        case rel => exact ⟨3, by omega, by rw [hnew.out], rfl, Lib.hid (okTo_succ hok.out (by rw [hp.out]; simp)), trivial⟩
        case measure => simp [intOf]
      · subst h
        have hp : Hid (parseI 2 (atI s.data.toList 2) = some (true, true)) := Lib.hid (by rw [hat.out]; decide)
        have hbits : Hid (bitsI 2 (atI s.data.toList 2) = 2112) := Lib.hid (by unfold bitsI; rw [hp.out]; decide)
        have hnew : Hid (accN s.data.toList 3 = a ||| 2112) := Lib.hid (by have h := hstep.out; rw [hbits.out] at h; exact h)
        have hor : bits .or .i64 (a : Int) 2112 = ((a ||| 2112 : Nat) : Int) := i64_or_nat a 2112 (by have := Hacc.out; omega) (by decide)
        have hor2 : bits .or .i64 64 2048 = 2112 := by decide
        go_wp2_with fail
        go_roundw
        case rel => exact ⟨3, by omega, by rw [hnew.out], rfl, Lib.hid (okTo_succ hok.out (by rw [hp.out]; simp)), trivial⟩
        case measure => simp [intOf]
      · subst h
        have hp : Hid (parseI 2 (atI s.data.toList 2) = some (false, true)) := Lib.hid (by rw [hat.out]; decide)
        have hbits : Hid (bitsI 2 (atI s.data.toList 2) = 2048) := Lib.hid (by unfold bitsI; rw [hp.out]; decide)
        have hnew : Hid (accN s.data.toList 3 = a ||| 2048) := Lib.hid (by have h := hstep.out; rw [hbits.out] at h; exact h)
        have hor : bits .or .i64 (a : Int) 2048 = ((a ||| 2048 : Nat) : Int) := i64_or_nat a 2048 (by have := Hacc.out; omega) (by decide)
        go_wp2_with fail
        go_roundw
        case rel => exact ⟨3, by omega, by rw [hnew.out], rfl, Lib.hid (okTo_succ hok.out (by rw [hp.out]; simp)), trivial⟩
        case measure => simp [intOf]
      · obtain ⟨g0, g1, g2, g3⟩ := h
        have r0 : (c == 45) = false := by rw [beq_eq_false_iff_ne]; exact g0
        have r1 : (c == 120) = false := by rw [beq_eq_false_iff_ne]; exact g1
        have r2 : (c == 115) = false := by rw [beq_eq_false_iff_ne]; exact g2
        have r3 : (c == 83) = false := by rw [beq_eq_false_iff_ne]; exact g3
        have hp : Hid (parseI 2 (atI s.data.toList 2) = none) := Lib.hid (by
          rw [hat.out]
          unfold parseI
          rw [if_neg g0, if_neg (by rw [show ltrI 2 = 120 from rfl]; exact g1), if_neg (fun h => g2 (by rw [h.2]; rfl)), if_neg (fun h => g3 (by rw [h.2]; rfl))])
        have ev : Hid (mrV s.data.toList = 0 ∧ mrE s.data.toList = 3) := Lib.hid (mr_bad fun h => h.2 2 (by omega) hp.out)
        clear g0 g1 g2 g3
        go_wp2_with fail
        go_ret2
        exact ⟨ret_val (by rw [ev.out.1, ev.out.2]; rfl), (by show Below _ _ _; repeat' (first | (with_reducible exact Below.refl _ _) | (with_reducible assumption) | (with_reducible refine belowDrewN ?_ _) | (with_reducible refine Below.alloc ?_ ?_ _) | (with_reducible refine Below.drew ?_) | (with_reducible refine Below.setCell ?_ ?_ _) | go_size))⟩
    · have hz : Hid (3 < s.size) := Lib.hid (by rw [H9.out]; decide)
      have hat : Hid (atI s.data.toList 3 = bt s 3) := Lib.hid (atI_bt s 3 hz.out)
      have e3 : (3 : Int) < s.size := by have := H9.out; omega
      have n3 : 3 < s.size := hz.out
      have hL : ∀ h, (((⟨#[114, 119, 120, 114, 119, 120, 114, 119, 120]⟩ : ByteArray)[3]'h).toNat : Int) = 114 := fun _ => rfl
      have hM : ∀ h, (((⟨#[115, 115, 116]⟩ : ByteArray)[1]'h).toNat : Int) = 115 := fun _ => rfl
      have hbi : ((s[3]).toNat : Int) = bt s 3 := get_bt s 3 hz.out
      generalize ha : accN s.data.toList 3 = a at *
      have Ha := Lib.hid ha
      have Hacc := Lib.hid hacc
      clear ha hacc
      generalize hc : bt s 3 = c at *
      have Hc := Lib.hid hc
      clear hc
      rcases (show c = 45 ∨ c = 114 ∨ (c ≠ 45 ∧ c ≠ 114) by omega) with h | h | h
      · subst h
        have hp : Hid (parseI 3 (atI s.data.toList 3) = some (false, false)) := Lib.hid (by rw [hat.out]; decide)
        have hbits : Hid (bitsI 3 (atI s.data.toList 3) = 0) := Lib.hid (by unfold bitsI; rw [hp.out]; decide)
        have hnew : Hid (accN s.data.toList 4 = a ||| 0) := Lib.hid (by have h := hstep.out; rw [hbits.out] at h; exact h)
        go_wp2_with fail
        go_roundw
        case rel => exact ⟨4, by omega, by rw [hnew.out, Nat.or_zero], rfl, Lib.hid (okTo_succ hok.out (by rw [hp.out]; simp)), trivial⟩
        case measure => simp [intOf]
      · subst h
        have hp : Hid (parseI 3 (atI s.data.toList 3) = some (true, false)) := Lib.hid (by rw [hat.out]; decide)
        have hbits : Hid (bitsI 3 (atI s.data.toList 3) = 32) := Lib.hid (by unfold bitsI; rw [hp.out]; decide)
        have hnew : Hid (accN s.data.toList 4 = a ||| 32) := Lib.hid (by have h := hstep.out; rw [hbits.out] at h; exact h)
        have hor : bits .or .i64 (a : Int) 32 = ((a ||| 32 : Nat) : Int) := i64_or_nat a 32 (by have := Hacc.out; omega) (by decide)
        go_wp2_with fail
        go_roundw
        case rel => exact ⟨4, by omega, by rw [hnew.out], rfl, Lib.hid (okTo_succ hok.out (by rw [hp.out]; simp)), trivial⟩
        case measure => simp [intOf]
      · obtain ⟨g0, g1⟩ := h
        have r0 : (c == 45) = false := by rw [beq_eq_false_iff_ne]; exact g0
        have r1 : (c == 114) = false := by rw [beq_eq_false_iff_ne]; exact g1
        have hp : Hid (parseI 3 (atI s.data.toList 3) = none) := Lib.hid (by
          rw [hat.out]
          unfold parseI
          rw [if_neg g0, if_neg (by rw [show ltrI 3 = 114 from rfl]; exact g1), if_neg (fun h => absurd h.1 (by decide)), if_neg (fun h => absurd h.1 (by decide))])
        have ev : Hid (mrV s.data.toList = 0 ∧ mrE s.data.toList = 3) := Lib.hid (mr_bad fun h => h.2 3 (by omega) hp.out)
        clear g0 g1
        go_wp2_with fail
        go_ret2
        exact ⟨ret_val (by rw [ev.out.1, ev.out.2]; rfl), (by show Below _ _ _; repeat' (first | (with_reducible exact Below.refl _ _) | (with_reducible assumption) | (with_reducible refine belowDrewN ?_ _) | (with_reducible refine Below.alloc ?_ ?_ _) | (with_reducible refine Below.drew ?_) | (with_reducible refine Below.setCell ?_ ?_ _) | go_size))⟩
    · have hz : Hid (4 < s.size) := Lib.hid (by rw [H9.out]; decide)
      have hat : Hid (atI s.data.toList 4 = bt s 4) := Lib.hid (atI_bt s 4 hz.out)
      have e4 : (4 : Int) < s.size := by have := H9.out; omega
      have n4 : 4 < s.size := hz.out
      have hL : ∀ h, (((⟨#[114, 119, 120, 114, 119, 120, 114, 119, 120]⟩ : ByteArray)[4]'h).toNat : Int) = 119 := fun _ => rfl
      have hM : ∀ h, (((⟨#[115, 115, 116]⟩ : ByteArray)[1]'h).toNat : Int) = 115 := fun _ => rfl
      have hbi : ((s[4]).toNat : Int) = bt s 4 := get_bt s 4 hz.out
      generalize ha : accN s.data.toList 4 = a at *
      have Ha := Lib.hid ha
      have Hacc := Lib.hid hacc
      clear ha hacc
      generalize hc : bt s 4 = c at *
      have Hc := Lib.hid hc
      clear hc
      rcases (show c = 45 ∨ c = 119 ∨ (c ≠ 45 ∧ c ≠ 119) by omega) with h | h | h
      · subst h
        have hp : Hid (parseI 4 (atI s.data.toList 4) = some (false, false)) := Lib.hid (by rw [hat.out]; decide)
        have hbits : Hid (bitsI 4 (atI s.data.toList 4) = 0) := Lib.hid (by unfold bitsI; rw [hp.out]; decide)
        have hnew : Hid (accN s.data.toList 5 = a ||| 0) := Lib.hid (by have h := hstep.out; rw [hbits.out] at h; exact h)
        go_wp2_with fail
        go_roundw
        case rel => exact ⟨5, by omega, by rw [hnew.out, Nat.or_zero], rfl, Lib.hid (okTo_succ hok.out (by rw [hp.out]; simp)), trivial⟩
        case measure => simp [intOf]
      · subst h
        have hp : Hid (parseI 4 (atI s.data.toList 4) = some (true, false)) := Lib.hid (by rw [hat.out]; decide)
        have hbits : Hid (bitsI 4 (atI s.data.toList 4) = 16) := Lib.hid (by unfold bitsI; rw [hp.out]; decide)
        have hnew : Hid (accN s.data.toList 5 = a ||| 16) := Lib.hid (by have h := hstep.out; rw [hbits.out] at h; exact h)
        have hor : bits .or .i64 (a : Int) 16 = ((a ||| 16 : Nat) : Int) := i64_or_nat a 16 (by have := Hacc.out; omega) (by decide)
        go_wp2_with fail
        go_roundw
        case rel => exact ⟨5, by omega, by rw [hnew.out], rfl, Lib.hid (okTo_succ hok.out (by rw [hp.out]; simp)), trivial⟩
        case measure => simp [intOf]
      · obtain ⟨g0, g1⟩ := h
        have r0 : (c == 45) = false := by rw [beq_eq_false_iff_ne]; exact g0
        have r1 : (c == 119) = false := by rw [beq_eq_false_iff_ne]; exact g1
        have hp : Hid (parseI 4 (atI s.data.toList 4) = none) := Lib.hid (by
          rw [hat.out]
          unfold parseI
          rw [if_neg g0, if_neg (by rw [show ltrI 4 = 119 from rfl]; exact g1), if_neg (fun h => absurd h.1 (by decide)), if_neg (fun h => absurd h.1 (by decide))])
        have ev : Hid (mrV s.data.toList = 0 ∧ mrE s.data.toList = 3) := Lib.hid (mr_bad fun h => h.2 4 (by omega) hp.out)
        clear g0 g1
        go_wp2_with fail
        go_ret2
        exact ⟨ret_val (by rw [ev.out.1, ev.out.2]; rfl), (by show Below _ _ _; repeat' (first | (with_reducible exact Below.refl _ _) | (with_reducible assumption) | (with_reducible refine belowDrewN ?_ _) | (with_reducible refine Below.alloc ?_ ?_ _) | (with_reducible refine Below.drew ?_) | (with_reducible refine Below.setCell ?_ ?_ _) | go_size))⟩
    · have hz : Hid (5 < s.size) := Lib.hid (by rw [H9.out]; decide)
      have hat : Hid (atI s.data.toList 5 = bt s 5) := Lib.hid (atI_bt s 5 hz.out)
      have e5 : (5 : Int) < s.size := by have := H9.out; omega
      have n5 : 5 < s.size := hz.out
      have hL : ∀ h, (((⟨#[114, 119, 120, 114, 119, 120, 114, 119, 120]⟩ : ByteArray)[5]'h).toNat : Int) = 120 := fun _ => rfl
      have hM : ∀ h, (((⟨#[115, 115, 116]⟩ : ByteArray)[1]'h).toNat : Int) = 115 := fun _ => rfl
      have hbi : ((s[5]).toNat : Int) = bt s 5 := get_bt s 5 hz.out
      generalize ha : accN s.data.toList 5 = a at *
      have Ha := Lib.hid ha
      have Hacc := Lib.hid hacc
      clear ha hacc
      generalize hc : bt s 5 = c at *
      have Hc := Lib.hid hc
      clear hc
      rcases (show c = 45 ∨ c = 120 ∨ c = 115 ∨ c = 83 ∨ (c ≠ 45 ∧ c ≠ 120 ∧ c ≠ 115 ∧ c ≠ 83) by omega) with h | h | h | h | h
      · subst h
        have hp : Hid (parseI 5 (atI s.data.toList 5) = some (false, false)) := Lib.hid (by rw [hat.out]; decide)
        have hbits : Hid (bitsI 5 (atI s.data.toList 5) = 0) := Lib.hid (by unfold bitsI; rw [hp.out]; decide)
        have hnew : Hid (accN s.data.toList 6 = a ||| 0) := Lib.hid (by have h := hstep.out; rw [hbits.out] at h; exact h)
        go_wp2_with fail
        go_roundw
        case rel => exact ⟨6, by omega, by rw [hnew.out, Nat.or_zero], rfl, Lib.hid (okTo_succ hok.out (by rw [hp.out]; simp)), trivial⟩
        case measure => simp [intOf]
      · subst h
        have hp : Hid (parseI 5 (atI s.data.toList 5) = some (true, false)) := Lib.hid (by rw [hat.out]; decide)
        have hbits : Hid (bitsI 5 (atI s.data.toList 5) = 8) := Lib.hid (by unfold bitsI; rw [hp.out]; decide)
        have hnew : Hid (accN s.data.toList 6 = a ||| 8) := Lib.hid (by have h := hstep.out; rw [hbits.out] at h; exact h)
        have hor : bits .or .i64 (a : Int) 8 = ((a ||| 8 : Nat) : Int) := i64_or_nat a 8 (by have := Hacc.out; omega) (by decide)
        go_wp2_with fail
        go_roundw
        case rel => exact ⟨6, by omega, by rw [hnew.out], rfl, Lib.hid (okTo_succ hok.out (by rw [hp.out]; simp)), trivial⟩
        case measure => simp [intOf]
      · subst h
        have hp : Hid (parseI 5 (atI s.data.toList 5) = some (true, true)) := Lib.hid (by rw [hat.out]; decide)
        have hbits : Hid (bitsI 5 (atI s.data.toList 5) = 1032) := Lib.hid (by unfold bitsI; rw [hp.out]; decide)
        have hnew : Hid (accN s.data.toList 6 = a ||| 1032) := Lib.hid (by have h := hstep.out; rw [hbits.out] at h; exact h)
        have hor : bits .or .i64 (a : Int) 1032 = ((a ||| 1032 : Nat) : Int) := i64_or_nat a 1032 (by have := Hacc.out; omega) (by decide)
        have hor2 : bits .or .i64 8 1024 = 1032 := by decide
        go_wp2_with fail
        go_roundw
        case rel => exact ⟨6, by omega, by rw [hnew.out], rfl, Lib.hid (okTo_succ hok.out (by rw [hp.out]; simp)), trivial⟩
        case measure => simp [intOf]
      · subst h
        have hp : Hid (parseI 5 (atI s.data.toList 5) = some (false, true)) := Lib.hid (by rw [hat.out]; decide)
        have hbits : Hid (bitsI 5 (atI s.data.toList 5) = 1024) := Lib.hid (by unfold bitsI; rw [hp.out]; decide)
        have hnew : Hid (accN s.data.toList 6 = a ||| 1024) := Lib.hid (by have h := hstep.out; rw [hbits.out] at h; exact h)
        have hor : bits .or .i64 (a : Int) 1024 = ((a ||| 1024 : Nat) : Int) := i64_or_nat a 1024 (by have := Hacc.out; omega) (by decide)
        go_wp2_with fail
        go_roundw
        case rel => exact ⟨6, by omega, by rw [hnew.out], rfl, Lib.hid (okTo_succ hok.out (by rw [hp.out]; simp)), trivial⟩
        case measure => simp [intOf]
      · obtain ⟨g0, g1, g2, g3⟩ := h
        have r0 : (c == 45) = false := by rw [beq_eq_false_iff_ne]; exact g0
        have r1 : (c == 120) = false := by rw [beq_eq_false_iff_ne]; exact g1
        have r2 : (c == 115) = false := by rw [beq_eq_false_iff_ne]; exact g2
        have r3 : (c == 83) = false := by rw [beq_eq_false_iff_ne]; exact g3
        have hp : Hid (parseI 5 (atI s.data.toList 5) = none) := Lib.hid (by
          rw [hat.out]
          unfold parseI
          rw [if_neg g0, if_neg (by rw [show ltrI 5 = 120 from rfl]; exact g1), if_neg (fun h => g2 (by rw [h.2]; rfl)), if_neg (fun h => g3 (by rw [h.2]; rfl))])
        have ev : Hid (mrV s.data.toList = 0 ∧ mrE s.data.toList = 3) := Lib.hid (mr_bad fun h => h.2 5 (by omega) hp.out)
        clear g0 g1 g2 g3
        go_wp2_with fail
        go_ret2
        exact ⟨ret_val (by rw [ev.out.1, ev.out.2]; rfl), (by show Below _ _ _; repeat' (first | (with_reducible exact Below.refl _ _) | (with_reducible assumption) | (with_reducible refine belowDrewN ?_ _) | (with_reducible refine Below.alloc ?_ ?_ _) | (with_reducible refine Below.drew ?_) | (with_reducible refine Below.setCell ?_ ?_ _) | go_size))⟩
    · have hz : Hid (6 < s.size) := Lib.hid (by rw [H9.out]; decide)
      have hat : Hid (atI s.data.toList 6 = bt s 6) := Lib.hid (atI_bt s 6 hz.out)
      have e6 : (6 : Int) < s.size := by have := H9.out; omega
      have n6 : 6 < s.size := hz.out
      have hL : ∀ h, (((⟨#[114, 119, 120, 114, 119, 120, 114, 119, 120]⟩ : ByteArray)[6]'h).toNat : Int) = 114 := fun _ => rfl
      have hM : ∀ h, (((⟨#[115, 115, 116]⟩ : ByteArray)[2]'h).toNat : Int) = 116 := fun _ => rfl
      have hbi : ((s[6]).toNat : Int) = bt s 6 := get_bt s 6 hz.out
      generalize ha : accN s.data.toList 6 = a at *
      have Ha := Lib.hid ha
      have Hacc := Lib.hid hacc
      clear ha hacc
      generalize hc : bt s 6 = c at *
      have Hc := Lib.hid hc
      clear hc
      rcases (show c = 45 ∨ c = 114 ∨ (c ≠ 45 ∧ c ≠ 114) by omega) with h | h | h
      · subst h
        have hp : Hid (parseI 6 (atI s.data.toList 6) = some (false, false)) := Lib.hid (by rw [hat.out]; decide)
        have hbits : Hid (bitsI 6 (atI s.data.toList 6) = 0) := Lib.hid (by unfold bitsI; rw [hp.out]; decide)
        have hnew : Hid (accN s.data.toList 7 = a ||| 0) := Lib.hid (by have h := hstep.out; rw [hbits.out] at h; exact h)
        go_wp2_with fail
        go_roundw
        case rel => exact ⟨7, by omega, by rw [hnew.out, Nat.or_zero], rfl, Lib.hid (okTo_succ hok.out (by rw [hp.out]; simp)), trivial⟩
        case measure => simp [intOf]
      · subst h
        have hp : Hid (parseI 6 (atI s.data.toList 6) = some (true, false)) := Lib.hid (by rw [hat.out]; decide)
        have hbits : Hid (bitsI 6 (atI s.data.toList 6) = 4) := Lib.hid (by unfold bitsI; rw [hp.out]; decide)
        have hnew : Hid (accN s.data.toList 7 = a ||| 4) := Lib.hid (by have h := hstep.out; rw [hbits.out] at h; exact h)
        have hor : bits .or .i64 (a : Int) 4 = ((a ||| 4 : Nat) : Int) := i64_or_nat a 4 (by have := Hacc.out; omega) (by decide)
        go_wp2_with fail
        go_roundw
        case rel => exact ⟨7, by omega, by rw [hnew.out], rfl, Lib.hid (okTo_succ hok.out (by rw [hp.out]; simp)), trivial⟩
        case measure => simp [intOf]
      · obtain ⟨g0, g1⟩ := h
        have r0 : (c == 45) = false := by rw [beq_eq_false_iff_ne]; exact g0
        have r1 : (c == 114) = false := by rw [beq_eq_false_iff_ne]; exact g1
        have hp : Hid (parseI 6 (atI s.data.toList 6) = none) := Lib.hid (by
          rw [hat.out]
          unfold parseI
          rw [if_neg g0, if_neg (by rw [show ltrI 6 = 114 from rfl]; exact g1), if_neg (fun h => absurd h.1 (by decide)), if_neg (fun h => absurd h.1 (by decide))])
        have ev : Hid (mrV s.data.toList = 0 ∧ mrE s.data.toList = 3) := Lib.hid (mr_bad fun h => h.2 6 (by omega) hp.out)
        clear g0 g1
        go_wp2_with fail
        go_ret2
        exact ⟨ret_val (by rw [ev.out.1, ev.out.2]; rfl), (by show Below _ _ _; repeat' (first | (with_reducible exact Below.refl _ _) | (with_reducible assumption) | (with_reducible refine belowDrewN ?_ _) | (with_reducible refine Below.alloc ?_ ?_ _) | (with_reducible refine Below.drew ?_) | (with_reducible refine Below.setCell ?_ ?_ _) | go_size))⟩
    · have hz : Hid (7 < s.size) := Lib.hid (by rw [H9.out]; decide)
      have hat : Hid (atI s.data.toList 7 = bt s 7) := Lib.hid (atI_bt s 7 hz.out)
      have e7 : (7 : Int) < s.size := by have := H9.out; omega
      have n7 : 7 < s.size := hz.out
      have hL : ∀ h, (((⟨#[114, 119, 120, 114, 119, 120, 114, 119, 120]⟩ : ByteArray)[7]'h).toNat : Int) = 119 := fun _ => rfl
      have hM : ∀ h, (((⟨#[115, 115, 116]⟩ : ByteArray)[2]'h).toNat : Int) = 116 := fun _ => rfl
      have hbi : ((s[7]).toNat : Int) = bt s 7 := get_bt s 7 hz.out
      generalize ha : accN s.data.toList 7 = a at *
      have Ha := Lib.hid ha
      have Hacc := Lib.hid hacc
      clear ha hacc
      generalize hc : bt s 7 = c at *
      have Hc := Lib.hid hc
      clear hc
      rcases (show c = 45 ∨ c = 119 ∨ (c ≠ 45 ∧ c ≠ 119) by omega) with h | h | h
      · subst h
        have hp : Hid (parseI 7 (atI s.data.toList 7) = some (false, false)) := Lib.hid (by rw [hat.out]; decide)
        have hbits : Hid (bitsI 7 (atI s.data.toList 7) = 0) := Lib.hid (by unfold bitsI; rw [hp.out]; decide)
        have hnew : Hid (accN s.data.toList 8 = a ||| 0) := Lib.hid (by have h := hstep.out; rw [hbits.out] at h; exact h)
        go_wp2_with fail
        go_roundw
        case rel => exact ⟨8, by omega, by rw [hnew.out, Nat.or_zero], rfl, Lib.hid (okTo_succ hok.out (by rw [hp.out]; simp)), trivial⟩
        case measure => simp [intOf]
      · subst h
        have hp : Hid (parseI 7 (atI s.data.toList 7) = some (true, false)) := Lib.hid (by rw [hat.out]; decide)
        have hbits : Hid (bitsI 7 (atI s.data.toList 7) = 2) := Lib.hid (by unfold bitsI; rw [hp.out]; decide)
        have hnew : Hid (accN s.data.toList 8 = a ||| 2) := Lib.hid (by have h := hstep.out; rw [hbits.out] at h; exact h)
        have hor : bits .or .i64 (a : Int) 2 = ((a ||| 2 : Nat) : Int) := i64_or_nat a 2 (by have := Hacc.out; omega) (by decide)
        go_wp2_with fail
        go_roundw
        case rel => exact ⟨8, by omega, by rw [hnew.out], rfl, Lib.hid (okTo_succ hok.out (by rw [hp.out]; simp)), trivial⟩
        case measure => simp [intOf]
      · obtain ⟨g0, g1⟩ := h
        have r0 : (c == 45) = false := by rw [beq_eq_false_iff_ne]; exact g0
        have r1 : (c == 119) = false := by rw [beq_eq_false_iff_ne]; exact g1
        have hp : Hid (parseI 7 (atI s.data.toList 7) = none) := Lib.hid (by
          rw [hat.out]
          unfold parseI
          rw [if_neg g0, if_neg (by rw [show ltrI 7 = 119 from rfl]; exact g1), if_neg (fun h => absurd h.1 (by decide)), if_neg (fun h => absurd h.1 (by decide))])
        have ev : Hid (mrV s.data.toList = 0 ∧ mrE s.data.toList = 3) := Lib.hid (mr_bad fun h => h.2 7 (by omega) hp.out)
        clear g0 g1
        go_wp2_with fail
        go_ret2
        exact ⟨ret_val (by rw [ev.out.1, ev.out.2]; rfl), (by show Below _ _ _; repeat' (first | (with_reducible exact Below.refl _ _) | (with_reducible assumption) | (with_reducible refine belowDrewN ?_ _) | (with_reducible refine Below.alloc ?_ ?_ _) | (with_reducible refine Below.drew ?_) | (with_reducible refine Below.setCell ?_ ?_ _) | go_size))⟩
    · have hz : Hid (8 < s.size) := Lib.hid (by rw [H9.out]; decide)
      have hat : Hid (atI s.data.toList 8 = bt s 8) := Lib.hid (atI_bt s 8 hz.out)
      have e8 : (8 : Int) < s.size := by have := H9.out; omega
      have n8 : 8 < s.size := hz.out
      have hL : ∀ h, (((⟨#[114, 119, 120, 114, 119, 120, 114, 119, 120]⟩ : ByteArray)[8]'h).toNat : Int) = 120 := fun _ => rfl
      have hM : ∀ h, (((⟨#[115, 115, 116]⟩ : ByteArray)[2]'h).toNat : Int) = 116 := fun _ => rfl
      have hbi : ((s[8]).toNat : Int) = bt s 8 := get_bt s 8 hz.out
      generalize ha : accN s.data.toList 8 = a at *
      have Ha := Lib.hid ha
      have Hacc := Lib.hid hacc
      clear ha hacc
      generalize hc : bt s 8 = c at *
      have Hc := Lib.hid hc
      clear hc
      rcases (show c = 45 ∨ c = 120 ∨ c = 116 ∨ c = 84 ∨ (c ≠ 45 ∧ c ≠ 120 ∧ c ≠ 116 ∧ c ≠ 84) by omega) with h | h | h | h | h
      · subst h
        have hp : Hid (parseI 8 (atI s.data.toList 8) = some (false, false)) := Lib.hid (by rw [hat.out]; decide)
        have hbits : Hid (bitsI 8 (atI s.data.toList 8) = 0) := Lib.hid (by unfold bitsI; rw [hp.out]; decide)
        have hnew : Hid (accN s.data.toList 9 = a ||| 0) := Lib.hid (by have h := hstep.out; rw [hbits.out] at h; exact h)
        go_wp2_with fail
        go_roundw
        case rel => exact ⟨9, by omega, by rw [hnew.out, Nat.or_zero], rfl, Lib.hid (okTo_succ hok.out (by rw [hp.out]; simp)), trivial⟩
        case measure => simp [intOf]
      · subst h
        have hp : Hid (parseI 8 (atI s.data.toList 8) = some (true, false)) := Lib.hid (by rw [hat.out]; decide)
        have hbits : Hid (bitsI 8 (atI s.data.toList 8) = 1) := Lib.hid (by unfold bitsI; rw [hp.out]; decide)
        have hnew : Hid (accN s.data.toList 9 = a ||| 1) := Lib.hid (by have h := hstep.out; rw [hbits.out] at h; exact h)
        have hor : bits .or .i64 (a : Int) 1 = ((a ||| 1 : Nat) : Int) := i64_or_nat a 1 (by have := Hacc.out; omega) (by decide)
        go_wp2_with fail
        go_roundw
        case rel => exact ⟨9, by omega, by rw [hnew.out], rfl, Lib.hid (okTo_succ hok.out (by rw [hp.out]; simp)), trivial⟩
        case measure => simp [intOf]
      · subst h
        have hp : Hid (parseI 8 (atI s.data.toList 8) = some (true, true)) := Lib.hid (by rw [hat.out]; decide)
        have hbits : Hid (bitsI 8 (atI s.data.toList 8) = 513) := Lib.hid (by unfold bitsI; rw [hp.out]; decide)
        have hnew : Hid (accN s.data.toList 9 = a ||| 513) := Lib.hid (by have h := hstep.out; rw [hbits.out] at h; exact h)
        have hor : bits .or .i64 (a : Int) 513 = ((a ||| 513 : Nat) : Int) := i64_or_nat a 513 (by have := Hacc.out; omega) (by decide)
        have hor2 : bits .or .i64 1 512 = 513 := by decide
        go_wp2_with fail
        go_roundw
        case rel => exact ⟨9, by omega, by rw [hnew.out], rfl, Lib.hid (okTo_succ hok.out (by rw [hp.out]; simp)), trivial⟩
        case measure => simp [intOf]
      · subst h
        have hp : Hid (parseI 8 (atI s.data.toList 8) = some (false, true)) := Lib.hid (by rw [hat.out]; decide)
        have hbits : Hid (bitsI 8 (atI s.data.toList 8) = 512) := Lib.hid (by unfold bitsI; rw [hp.out]; decide)
        have hnew : Hid (accN s.data.toList 9 = a ||| 512) := Lib.hid (by have h := hstep.out; rw [hbits.out] at h; exact h)
        have hor : bits .or .i64 (a : Int) 512 = ((a ||| 512 : Nat) : Int) := i64_or_nat a 512 (by have := Hacc.out; omega) (by decide)
        go_wp2_with fail
        go_roundw
        case rel => exact ⟨9, by omega, by rw [hnew.out], rfl, Lib.hid (okTo_succ hok.out (by rw [hp.out]; simp)), trivial⟩
        case measure => simp [intOf]
      · obtain ⟨g0, g1, g2, g3⟩ := h
        have r0 : (c == 45) = false := by rw [beq_eq_false_iff_ne]; exact g0
        have r1 : (c == 120) = false := by rw [beq_eq_false_iff_ne]; exact g1
        have r2 : (c == 116) = false := by rw [beq_eq_false_iff_ne]; exact g2
        have r3 : (c == 84) = false := by rw [beq_eq_false_iff_ne]; exact g3
        have hp : Hid (parseI 8 (atI s.data.toList 8) = none) := Lib.hid (by
          rw [hat.out]
          unfold parseI
          rw [if_neg g0, if_neg (by rw [show ltrI 8 = 120 from rfl]; exact g1), if_neg (fun h => g2 (by rw [h.2]; rfl)), if_neg (fun h => g3 (by rw [h.2]; rfl))])
        have ev : Hid (mrV s.data.toList = 0 ∧ mrE s.data.toList = 3) := Lib.hid (mr_bad fun h => h.2 8 (by omega) hp.out)
        clear g0 g1 g2 g3
        go_wp2_with fail
        go_ret2
        exact ⟨ret_val (by rw [ev.out.1, ev.out.2]; rfl), (by show Below _ _ _; repeat' (first | (with_reducible exact Below.refl _ _) | (with_reducible assumption) | (with_reducible refine belowDrewN ?_ _) | (with_reducible refine Below.alloc ?_ ?_ _) | (with_reducible refine Below.drew ?_) | (with_reducible refine Below.setCell ?_ ?_ _) | go_size))⟩
    · have ev : Hid (mrV s.data.toList = (accN s.data.toList 9 : Int) ∧ mrE s.data.toList = 0) := Lib.hid (mr_good (by have := H9.out; simpa using this) hok.out)
      generalize accN s.data.toList 9 = a at *
      go_wp2_with fail
      go_ret2
      exact ⟨ret_val (by rw [ev.out.1, ev.out.2]; rfl), (by show Below _ _ _; repeat' (first | (with_reducible exact Below.refl _ _) | (with_reducible assumption) | (with_reducible refine belowDrewN ?_ _) | (with_reducible refine Below.alloc ?_ ?_ _) | (with_reducible refine Below.drew ?_) | (with_reducible refine Below.setCell ?_ ?_ _) | go_size))⟩
set_option maxRecDepth 100000 in
theorem modeParse_any (s : ByteArray) (w : World) : Calls Tryd.prog 24 #[.string s] w fun e w' => e = .returned (.tuple #[.int .i64 (mrV s.data.toList), errOf (mrE s.data.toList)]) ∧ Ext w w' := by
  by_cases h9 : s.size = 9
  · exact modeParse_good s w h9
  · have q9 : ((s.size : Int) != 9) = true := by simp; omega
    have ev : Hid (mrV s.data.toList = 0 ∧ mrE s.data.toList = 3) := Lib.hid (mr_bad fun h => h9 (by rw [← h.1]; rfl))
    clear h9
    go_enter Tryd.func24, Tryd.ntmps24
    go_wp2_with fail
    go_ret2
    exact ⟨ret_val (by rw [ev.out.1, ev.out.2]; rfl), (by show Below _ _ _; repeat' (first | (with_reducible exact Below.refl _ _) | (with_reducible assumption) | (with_reducible refine belowDrewN ?_ _) | (with_reducible refine Below.alloc ?_ ?_ _) | (with_reducible refine Below.drew ?_) | (with_reducible refine Below.setCell ?_ ?_ _) | go_size))⟩
end Go.Proofs.YtedcibjnnihhfaaDoor
