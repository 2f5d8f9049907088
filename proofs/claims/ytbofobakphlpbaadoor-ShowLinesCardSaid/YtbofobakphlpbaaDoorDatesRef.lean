/-
  Contract of the reference's Date: year by year, month by month.
-/
import Derived.Test.YtbofobakphlpbaaDoorDates
namespace Go.Proofs.YtbofobakphlpbaaDoor
open Go.RowKit

theorem tm4 (y : Int) : y.tmod 4 = 0 ↔ y % 4 = 0 := by
  have h := Int.tmod_eq_emod (a := y) (b := 4)
  split at h <;> simp at h <;> omega
theorem tm100 (y : Int) : y.tmod 100 = 0 ↔ y % 100 = 0 := by
  have h := Int.tmod_eq_emod (a := y) (b := 100)
  split at h <;> simp at h <;> omega
theorem tm400 (y : Int) : y.tmod 400 = 0 ↔ y % 400 = 0 := by
  have h := Int.tmod_eq_emod (a := y) (b := 400)
  split at h <;> simp at h <;> omega
def lpB (y : Int) : Bool := decide (Cal.lp y = 1)
theorem lp_one (y : Int) : Cal.lp y = if lpB y = true then 1 else 0 := by
  unfold lpB
  rcases Cal.lp_01 y with h | h <;> simp [h]

set_option maxRecDepth 100000 in
theorem leap_any (y : Int) (w : World) : Calls Tryd.prog 60 #[.int .i64 y] w fun e w' => e = .returned (.bool (lpB y)) ∧ w' = w := by
  have e4 := tm4 y
  have e100 := tm100 y
  have e400 := tm400 y
  have hl : Hid (lpB y = decide (Cal.lp y = 1)) := Lib.hid rfl
  have hp : Hid (Cal.lp y = if y % 4 = 0 ∧ (y % 100 ≠ 0 ∨ y % 400 = 0) then 1 else 0) := Lib.hid rfl
  by_cases h4 : y.tmod 4 = 0
  · have b4 : (y.tmod 4 == 0) = true := by simp [h4]
    have h4' := Lib.hid (e4.1 h4)
    by_cases h1 : y.tmod 100 = 0
    · have b1 : (y.tmod 100 != 0) = false := by simp [h1]
      have h1' := Lib.hid (e100.1 h1)
      by_cases h2 : y.tmod 400 = 0
      · have b2 : (y.tmod 400 == 0) = true := by simp [h2]
        have hr : Hid (lpB y = true) := Lib.hid (by rw [hl.out, hp.out, if_pos ⟨h4'.out, .inr (e400.1 h2)⟩]; rfl)
        clear e4 e100 e400 h4 h1 h2
        go_enter Tryd.func60, Tryd.ntmps60
        go_wp2_with fail
        go_ret
        exact ⟨ret_bool (by rw [hr.out]), rfl⟩
      · have b2 : (y.tmod 400 == 0) = false := by simp [h2]
        have hr : Hid (lpB y = false) := Lib.hid (by
          have h3 : ¬ y % 400 = 0 := fun h => h2 (e400.2 h)
          rw [hl.out, hp.out, if_neg (fun h => by rcases h.2 with h | h; exact h h1'.out; exact h3 h)]; rfl)
        clear e4 e100 e400 h4 h1 h2
        go_enter Tryd.func60, Tryd.ntmps60
        go_wp2_with fail
        go_ret
        exact ⟨ret_bool (by rw [hr.out]), rfl⟩
    · have b1 : (y.tmod 100 != 0) = true := by simp [h1]
      have hr : Hid (lpB y = true) := Lib.hid (by rw [hl.out, hp.out, if_pos ⟨h4'.out, .inl (fun h => h1 (e100.2 h))⟩]; rfl)
      clear e4 e100 e400 h4 h1
      go_enter Tryd.func60, Tryd.ntmps60
      go_wp2_with fail
      go_ret
      exact ⟨ret_bool (by rw [hr.out]), rfl⟩
  · have b4 : (y.tmod 4 == 0) = false := by simp [h4]
    have hr : Hid (lpB y = false) := Lib.hid (by rw [hl.out, hp.out, if_neg (fun h => h4 (e4.2 h.1))]; rfl)
    clear e4 e100 e400 h4
    go_enter Tryd.func60, Tryd.ntmps60
    go_wp2_with fail
    go_ret
    exact ⟨ret_bool (by rw [hr.out]), rfl⟩

theorem one_same (b : Bool) (w : World) : Calls Tryd.prog 59 #[.bool b] w fun e w' => e = .returned (.int .i64 (if b = true then 1 else 0)) ∧ w' = w := by
  cases b
  all_goals
    go_enter Tryd.func59, Tryd.ntmps59
    go_wp2_with fail
    go_ret
    exact ⟨ret_int (by simp), rfl⟩
theorem oneLp (y : Int) (w : World) : Calls Tryd.prog 59 #[.bool (lpB y)] w fun e w' => e = .returned (.int .i64 (Cal.lp y)) ∧ w' = w :=
  (one_same (lpB y) w).mono fun _ _ ⟨h, k⟩ => ⟨by rw [h, lp_one], k⟩

theorem y_bd {y : Int} (h0 : -60000000 ≤ Cal.dby y) (h1 : Cal.dby y ≤ 60000000) : -200000 ≤ y ∧ y ≤ 200000 := by unfold Cal.dby Cal.mar at *; omega
/-- The months' lengths as the text has them. -/
def mtab (L : Int) : Array Value := #[.int .i64 31, .int .i64 (28 + L), .int .i64 31, .int .i64 30, .int .i64 31, .int .i64 30, .int .i64 31, .int .i64 31, .int .i64 30, .int .i64 31, .int .i64 30, .int .i64 31]
theorem mtab_at (y : Int) (m : Nat) (h : m ≤ 11) : (mtab (Cal.lp y))[m]? = some (.int .i64 (Cal.mlen y m)) := by
  have hh : ∀ k : Int, 2 ≤ k → Cal.dbm y k = 59 + Cal.lp y + (153 * (k - 2) + 2) / 5 := fun k hk => by unfold Cal.dbm; rw [if_neg (by omega), if_neg (by omega)]
  rcases (show m = 0 ∨ m = 1 ∨ m = 2 ∨ m = 3 ∨ m = 4 ∨ m = 5 ∨ m = 6 ∨ m = 7 ∨ m = 8 ∨ m = 9 ∨ m = 10 ∨ m = 11 by omega) with rfl | rfl | rfl | rfl | rfl | rfl | rfl | rfl | rfl | rfl | rfl | rfl
  · rfl
  · have : Cal.mlen y 1 = 28 + Cal.lp y := by unfold Cal.mlen; rw [hh (1 + 1) (by decide)]; show _ - 31 = _; omega
    show some (Value.int .i64 (28 + Cal.lp y)) = some (.int .i64 (Cal.mlen y 1))
    rw [this]
  all_goals
    unfold Cal.mlen
    rw [hh _ (by decide), hh _ (by decide)]
    simp only [mtab]
    simp
    omega
end Go.Proofs.YtbofobakphlpbaaDoor
