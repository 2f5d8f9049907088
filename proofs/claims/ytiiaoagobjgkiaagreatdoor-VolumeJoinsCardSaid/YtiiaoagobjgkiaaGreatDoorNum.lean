/-
  Contracts of the small functions on numbers: within, power.
-/
import Derived.Test.YtiiaoagobjgkiaaGreatDoorDet
namespace Go.Proofs.YtiiaoagobjgkiaaGreatDoor
open Go.RowKit

theorem within_same (n low high : Int) (w : World) : Calls Tryz.prog 38 #[.int .i64 n, .int .i64 low, .int .i64 high] w fun e w' => e = .returned (.bool (decide (low ≤ n) && decide (n ≤ high))) ∧ w' = w := by
  by_cases h1 : low ≤ n
  · have e : decide (low ≤ n) = true := by simpa using h1
    rw [e]
    go_enter Tryz.func38, Tryz.ntmps38
    go_wp2_with fail
    go_ret
    exact ⟨ret_bool (by simp), rfl⟩
  · have e : decide (low ≤ n) = false := by simpa using h1
    rw [e]
    go_enter Tryz.func38, Tryz.ntmps38
    go_wp2_with fail
    go_ret
    exact ⟨ret_bool (by simp), rfl⟩

/-- A number lies within bounds: behind a name, so that the walk's tests stay whole. -/
def rngB (n low high : Int) : Bool := decide (low ≤ n) && decide (n ≤ high)
theorem within_rng (n low high : Int) (w : World) : Calls Tryz.prog 38 #[.int .i64 n, .int .i64 low, .int .i64 high] w fun e w' => e = .returned (.bool (rngB n low high)) ∧ w' = w := within_same n low high w
theorem within_any (n low high : Int) (w : World) : Calls Tryz.prog 38 #[.int .i64 n, .int .i64 low, .int .i64 high] w fun e w' => e = .returned (.bool (decide (low ≤ n) && decide (n ≤ high))) ∧ Ext w w' :=
  (within_same n low high w).mono fun _ _ ⟨h, k⟩ => ⟨h, by rw [k]; exact Ext.refl _⟩
theorem within_yes' {n low high : Int} (h1 : low ≤ n) (h2 : n ≤ high) (w : World) : Calls Tryz.prog 38 #[.int .i64 n, .int .i64 low, .int .i64 high] w fun e w' => e = .returned (.bool true) ∧ w' = w :=
  (within_same n low high w).mono fun _ _ ⟨h, k⟩ => ⟨by rw [h]; simp [h1, h2], k⟩
theorem within_no' {n low high : Int} (h : n < low ∨ high < n) (w : World) : Calls Tryz.prog 38 #[.int .i64 n, .int .i64 low, .int .i64 high] w fun e w' => e = .returned (.bool false) ∧ w' = w :=
  (within_same n low high w).mono fun _ _ ⟨h', k⟩ => ⟨by rw [h']; exact ret_bool (by simp; omega), k⟩
theorem within_yes {n low high : Int} (h1 : low ≤ n) (h2 : n ≤ high) (w : World) : Calls Tryz.prog 38 #[.int .i64 n, .int .i64 low, .int .i64 high] w fun e w' => e = .returned (.bool true) ∧ Ext w w' :=
  (within_any n low high w).mono fun _ _ ⟨h, k⟩ => ⟨by rw [h]; simp [h1, h2], k⟩
theorem within_no {n low high : Int} (h : n < low ∨ high < n) (w : World) : Calls Tryz.prog 38 #[.int .i64 n, .int .i64 low, .int .i64 high] w fun e w' => e = .returned (.bool false) ∧ Ext w w' :=
  (within_any n low high w).mono fun _ _ ⟨h', k⟩ => ⟨by rw [h']; exact ret_bool (by simp; omega), k⟩

/-- A power, behind a name: the walk's simp does not open it. -/
def pw (b n : Nat) : Nat := b ^ n
theorem pw_mono {b : Nat} (hb : 0 < b) {i j : Nat} (h : i ≤ j) : pw b i ≤ pw b j := Nat.pow_le_pow_right hb h
theorem pw_succ (b k : Nat) : ((pw b (k + 1) : Nat) : Int) = (pw b k : Int) * (b : Int) := by rw [← Int.natCast_mul]; rfl

theorem power_same (b n : Nat) (hb : 0 < b) (hn : n ≤ 100) (hp : pw b n ≤ 4611686018427387904) (w : World) :
    Calls Tryz.prog 185 #[.int .i64 b, .int .i64 n] w fun e w' => e = .returned (.int .i64 (pw b n : Int)) ∧ w' = w := by
  go_enter Tryz.func185, Tryz.ntmps185
  go_wp2_with fail
  go_loop [1, 5] (fun m out => ∃ k : Nat, k ≤ n ∧ m = .int .i64 ((n - k : Nat) : Int) ∧ out = .int .i64 (pw b k : Int)) (fun m _ => (intOf m).toNat)
  case atStart => exact ⟨0, Nat.zero_le _, by simp, by simp [pw]⟩
  case round =>
    obtain ⟨k, hk, rfl, rfl⟩ := hrel
    by_cases hlt : k < n
    · have h0 : (0 : Int) < ((n - k : Nat) : Int) := by omega
      have h1 : ((n - k : Nat) : Int) ≤ 100 := by omega
      have hm : Hid (wrap64 ((pw b k : Int) * (b : Int)) = (pw b (k + 1) : Int)) := by
        have h3 : pw b (k + 1) ≤ pw b n := pw_mono hb hlt
        have h4 := pw_succ b k
        rw [← h4]
        exact IntWalk.wrap64_in _ (by omega)
      go_wp2_with fail
      go_round
      case rel => exact ⟨k + 1, hlt, by go_num, by rw [hm.out]⟩
      case measure => simp [intOf]; omega
    · obtain rfl : k = n := by omega
      go_wp2_with fail
      go_ret
      exact ⟨rfl, rfl⟩

theorem power_any (b n : Nat) (hb : 0 < b) (hn : n ≤ 100) (hp : pw b n ≤ 4611686018427387904) (w : World) :
    Calls Tryz.prog 185 #[.int .i64 b, .int .i64 n] w fun e w' => e = .returned (.int .i64 (pw b n : Int)) ∧ Ext w w' :=
  (power_same b n hb hn hp w).mono fun _ _ ⟨h, k⟩ => ⟨h, by rw [k]; exact Ext.refl _⟩

theorem power_int {b n : Int} (hb : 0 < b) (h0 : 0 ≤ n) (hn : n ≤ 100) (hp : pw b.toNat n.toNat ≤ 4611686018427387904) (w : World) :
    Calls Tryz.prog 185 #[.int .i64 b, .int .i64 n] w fun e w' => e = .returned (.int .i64 (pw b.toNat n.toNat : Int)) ∧ Ext w w' := by
  obtain ⟨b, rfl⟩ := Int.eq_ofNat_of_zero_le (Int.le_of_lt hb)
  obtain ⟨n, rfl⟩ := Int.eq_ofNat_of_zero_le h0
  exact power_any b n (by omega) (by omega) hp w

end Go.Proofs.YtiiaoagobjgkiaaGreatDoor
