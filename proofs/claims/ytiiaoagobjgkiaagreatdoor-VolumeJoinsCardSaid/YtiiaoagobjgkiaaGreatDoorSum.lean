/-
  The sum of a header: both functions give the same.
-/
import Derived.Test.YtiiaoagobjgkiaaGreatDoorBare
import Derived.Test.YtiiaoagobjgkiaaGreatDoorNum
import Derived.PlainAid
import Derived.Laws.IdiomStrings
namespace Go.Proofs.YtiiaoagobjgkiaaGreatDoor
open Go.RowKit Go.PlainAid

theorem bt_lo (s : ByteArray) (k : Nat) : 0 ≤ bt s k := bt_nonneg s k
theorem bt_hi (s : ByteArray) (k : Nat) : bt s k < 256 := by have := bt_le s k; omega

def sumTerm (s : ByteArray) (sg : Bool) (i : Nat) : Int := if 148 ≤ i ∧ i < 156 then 32 else if sg && decide (128 ≤ bt s i) then bt s i - 256 else bt s i
def sumUp (s : ByteArray) (sg : Bool) : Nat → Int
  | 0 => 0
  | k + 1 => sumUp s sg k + sumTerm s sg k
theorem sumTerm_lo (s : ByteArray) (sg : Bool) (k : Nat) : -128 ≤ sumTerm s sg k := by
  have := bt_lo s k
  unfold sumTerm
  split
  · omega
  · split
    · rename_i h; simp at h; omega
    · omega
theorem sumTerm_hi (s : ByteArray) (sg : Bool) (k : Nat) : sumTerm s sg k ≤ 256 := by
  have := bt_hi s k
  unfold sumTerm
  split
  · omega
  · split <;> omega
theorem sumUp_lo (s : ByteArray) (sg : Bool) : ∀ k : Nat, -(128 * (k : Int)) ≤ sumUp s sg k
  | 0 => by simp [sumUp]
  | k + 1 => by have := sumUp_lo s sg k; have := sumTerm_lo s sg k; simp only [sumUp]; omega
theorem sumUp_hi (s : ByteArray) (sg : Bool) : ∀ k : Nat, sumUp s sg k ≤ 256 * (k : Int)
  | 0 => by simp [sumUp]
  | k + 1 => by have := sumUp_hi s sg k; have := sumTerm_hi s sg k; simp only [sumUp]; omega

def sumV (s : ByteArray) (sg : Bool) : Int := if s.size = 512 then sumUp s sg s.size else 0
def sumE (s : ByteArray) : Int := if s.size = 512 then 0 else 1

set_option maxRecDepth 100000 in
theorem sum_any (s : ByteArray) (sg : Bool) (w : World) (hs : s.size ≤ 4611686018427387900) : Calls Tryz.prog 173 #[.string s, .bool sg] w fun e w' => e = .returned (.tuple #[.int .i64 (sumV s sg), errOf (sumE s)]) ∧ Ext w w' := by
  by_cases h : s.size = 512
  · have e1 : Hid (sumV s sg = sumUp s sg s.size) := Lib.hid (by unfold sumV; rw [if_pos h])
    have e2 : Hid (errOf (sumE s) = .nilIface) := Lib.hid (by unfold sumE; rw [if_pos h]; rfl)
    have hq : ((s.size : Int) != 512) = false := by simp; omega
    have hS : s.size ≤ 512 := by omega
    have hb := get_bt s
    clear h
    go_enter Tryz.func173, Tryz.ntmps173
    go_wp2_with fail
    go_loop [6, 14] (fun sm i => ∃ k : Nat, k ≤ s.size ∧ i = .int .i64 (k : Int) ∧ sm = .int .i64 (sumUp s sg k)) (fun _ i => (s.size - intOf i).toNat)
    case atStart => exact ⟨0, Nat.zero_le _, rfl, rfl⟩
    case round =>
      obtain ⟨k, hk, rfl, rfl⟩ := hrel
      have l1 := sumUp_lo s sg k
      have l2 := sumUp_hi s sg k
      have b1 := bt_lo s k
      have b2 := bt_hi s k
      by_cases hlt : k < s.size
      · by_cases hm : 148 ≤ k ∧ k < 156
        · have h1 : (148 : Int) ≤ (k : Int) := by omega
          have h2 : (k : Int) < 156 := by omega
          have et : Hid (sumTerm s sg k = 32) := Lib.hid (by unfold sumTerm; rw [if_pos hm])
          clear hm
          go_wp2_with fail
          go_round
          case rel => exact ⟨k + 1, hlt, by go_num, by simp only [sumUp, et.out]⟩
          case measure => simp [intOf]; omega
        · rcases (show (sg = false) ∨ (sg = true ∧ 128 ≤ bt s k) ∨ (sg = true ∧ bt s k < 128) by cases sg <;> simp <;> omega) with rfl | ⟨rfl, hc⟩ | ⟨rfl, hc⟩
          · have et : Hid (sumTerm s false k = bt s k) := Lib.hid (by unfold sumTerm; rw [if_neg hm]; simp)
            rcases (show ((k : Int) < 148) ∨ ((148 : Int) ≤ k ∧ (156 : Int) ≤ k) by omega) with h1 | ⟨h1, h2⟩ <;> clear hm
            all_goals (go_wp2_with fail; go_round)
            all_goals (first | exact ⟨k + 1, hlt, by go_num, by simp only [sumUp, et.out]⟩ | (simp [intOf]; omega))
          · have et : Hid (sumTerm s true k = bt s k - 256) := Lib.hid (by unfold sumTerm; rw [if_neg hm]; simp [hc])
            have hw : Hid (RowKit.wrap64 (sumUp s true k + RowKit.wrap64 (IntKind.i8.wrap (bt s k))) = sumUp s true k + (bt s k - 256)) := Lib.hid (by
              have : IntKind.i8.wrap (bt s k) = bt s k - 256 := by simp [IntKind.wrap, IntKind.bits, IntKind.signed]; omega
              rw [this, IntWalk.wrap64_in (bt s k - 256) (by omega), IntWalk.wrap64_in _ (by omega)])
            rcases (show ((k : Int) < 148) ∨ ((148 : Int) ≤ k ∧ (156 : Int) ≤ k) by omega) with h1 | ⟨h1, h2⟩ <;> clear hm
            all_goals (go_wp2_with fail; go_round)
            all_goals (first | exact ⟨k + 1, hlt, by go_num, by simp only [sumUp, et.out, hw.out]⟩ | (simp [intOf]; omega))
          · have et : Hid (sumTerm s true k = bt s k) := Lib.hid (by unfold sumTerm; rw [if_neg hm]; simp; omega)
            rcases (show ((k : Int) < 148) ∨ ((148 : Int) ≤ k ∧ (156 : Int) ≤ k) by omega) with h1 | ⟨h1, h2⟩ <;> clear hm
            all_goals (go_wp2_with fail; go_round)
            all_goals (first | exact ⟨k + 1, hlt, by go_num, by simp only [sumUp, et.out]⟩ | (simp [intOf]; omega))
      · have he : Hid (k = s.size) := Lib.hid (by omega)
        go_wp2_with fail
        go_ret2
        exact ⟨ret_val (by rw [e1.out, e2.out, he.out]; rfl), (by show Below _ _ _; repeat' (first | (with_reducible exact Below.refl _ _) | (with_reducible assumption) | (with_reducible refine belowDrewN ?_ _) | (with_reducible refine Below.alloc ?_ ?_ _) | (with_reducible refine Below.drew ?_) | (with_reducible refine Below.setCell ?_ ?_ _) | go_size))⟩
  · have e1 : Hid (sumV s sg = 0) := Lib.hid (by unfold sumV; rw [if_neg h])
    have e2 : Hid (errOf (sumE s) = .iface 23 (.int .i64 1)) := Lib.hid (by unfold sumE; rw [if_neg h]; rfl)
    have hq : ((s.size : Int) != 512) = true := by simp; omega
    clear h
    go_enter Tryz.func173, Tryz.ntmps173
    go_wp2_with fail
    go_ret2
    exact ⟨ret_val (by rw [e1.out, e2.out]; rfl), (by show Below _ _ _; repeat' (first | (with_reducible exact Below.refl _ _) | (with_reducible assumption) | (with_reducible refine belowDrewN ?_ _) | (with_reducible refine Below.alloc ?_ ?_ _) | (with_reducible refine Below.drew ?_) | (with_reducible refine Below.setCell ?_ ?_ _) | go_size))⟩

def sumPad (k : Nat) : Int := 32 * ((min (k - 148) 8 : Nat) : Int)
def refTerm (s : ByteArray) (sg : Bool) (i : Nat) : Int := if 148 ≤ i ∧ i < 156 then 0 else sumTerm s sg i
theorem pad_term (s : ByteArray) (sg : Bool) (k : Nat) : sumTerm s sg k + sumPad k = refTerm s sg k + sumPad (k + 1) := by
  unfold sumPad refTerm
  by_cases h : 148 ≤ k ∧ k < 156
  · have e : sumTerm s sg k = 32 := by unfold sumTerm; rw [if_pos h]
    rw [if_pos h, e]; omega
  · rw [if_neg h]; omega
def refUp (s : ByteArray) (sg : Bool) (k : Nat) : Int := 256 + sumUp s sg k - sumPad k
theorem refUp_succ (s : ByteArray) (sg : Bool) (k : Nat) : refUp s sg (k + 1) = refUp s sg k + refTerm s sg k := by
  have := pad_term s sg k
  unfold refUp
  simp only [sumUp]
  omega
theorem refUp_zero (s : ByteArray) (sg : Bool) : refUp s sg 0 = 256 := rfl
theorem refUp_end (s : ByteArray) (sg : Bool) (k : Nat) (h : k = 512) : refUp s sg k = sumUp s sg k := by
  unfold refUp sumPad
  subst h
  generalize sumUp s sg 512 = x
  have : ((min (512 - 148) 8 : Nat) : Int) = 8 := by decide
  rw [this]; omega
theorem refUp_lo (s : ByteArray) (sg : Bool) (k : Nat) : -(128 * (k : Int)) ≤ refUp s sg k := by
  have := sumUp_lo s sg k
  unfold refUp sumPad
  omega
theorem refUp_hi (s : ByteArray) (sg : Bool) (k : Nat) : refUp s sg k ≤ 256 * (k : Int) + 256 := by
  have := sumUp_hi s sg k
  unfold refUp sumPad
  omega

set_option maxRecDepth 100000 in
theorem refSum_any (s : ByteArray) (sg : Bool) (w : World) (hs : s.size ≤ 4611686018427387900) : Calls Tryz.prog 108 #[.string s, .bool sg] w fun e w' => e = .returned (.tuple #[.int .i64 (sumV s sg), .int .i64 (sumE s)]) ∧ Ext w w' := by
  by_cases h : s.size = 512
  · have e1 : Hid (sumV s sg = refUp s sg s.size) := Lib.hid (by unfold sumV; rw [if_pos h, refUp_end _ _ _ h])
    have e2 : Hid (sumE s = 0) := Lib.hid (by unfold sumE; rw [if_pos h])
    have hq : ((s.size : Int) != 512) = false := by simp; omega
    have hS : s.size ≤ 512 := by omega
    clear h
    obtain ⟨cap, C, kc, hC⟩ : ∃ cap C, (convert 9 144 (.string s)).run Tryz.prog w = .ok (.slice (some ⟨w.heap.size, 0, none⟩) s.size cap) (w.drew.alloc (.cells C 5 (C.size, C.size + 1))) ∧ ∀ k, k < s.size → C[k]? = some (.int .u8 (bt s k)) :=
      ⟨_, _, run_bytes_of_string w 9 144 5 s Tryz.underlying9 Tryz.underlying144 Tryz.underlying5, fun k hk => by
        have hk' : k < s.data.size := hk
        rw [bytesRow_at s _ k hk', ← get_bt s k hk]; rfl⟩
    have hc : ∀ k : Nat, k < s.size → (w.alloc (.cells C 5 (C.size, C.size + 1))).cell? ⟨w.heap.size, k, none⟩ = some (.int .u8 (bt s k)) := fun k hk => by
      have := World.cell?_alloc_mark w C 5 (C.size, C.size + 1) k
      rw [hC k hk] at this
      exact this
    go_enter Tryz.func108, Tryz.ntmps108
    go_wp2_with fail
    go_loop [6, 15] (fun sm i => ∃ k : Nat, k ≤ s.size ∧ i = .int .i64 (k : Int) ∧ sm = .int .i64 (refUp s sg k)) (fun _ i => (s.size - intOf i).toNat)
    case atStart => exact ⟨0, Nat.zero_le _, rfl, by rw [refUp_zero]⟩
    case round =>
      obtain ⟨k, hk, rfl, rfl⟩ := hrel
      have l1 := refUp_lo s sg k
      have l2 := refUp_hi s sg k
      have b1 := bt_lo s k
      have b2 := bt_hi s k
      by_cases hlt : k < s.size
      · have ck := hc k hlt
        by_cases hm : 148 ≤ k ∧ k < 156
        · have h1 : (148 : Int) ≤ (k : Int) := by omega
          have h2 : (k : Int) ≤ 155 := by omega
          have et : Hid (refTerm s sg k = 0) := Lib.hid (by unfold refTerm; rw [if_pos hm])
          clear hm
          go_wp2_with ((refine (within_yes' h1 h2 _).mono ?_); rintro e w' ⟨rfl, rfl⟩)
          go_round
          case rel => exact ⟨k + 1, hlt, by go_num, by simp [refUp_succ, et.out]⟩
          case measure => simp [intOf]; omega
        · have hn : (k : Int) < 148 ∨ 155 < (k : Int) := by omega
          have er : Hid (refTerm s sg k = sumTerm s sg k) := Lib.hid (by unfold refTerm; rw [if_neg hm])
          rcases (show (sg = false) ∨ (sg = true ∧ 128 ≤ bt s k) ∨ (sg = true ∧ bt s k < 128) by cases sg <;> simp <;> omega) with rfl | ⟨rfl, hc⟩ | ⟨rfl, hc⟩
          · have et : Hid (sumTerm s false k = bt s k) := Lib.hid (by unfold sumTerm; rw [if_neg hm]; simp)
            clear hm
            go_wp2_with ((refine (within_no' hn _).mono ?_); rintro e w' ⟨rfl, rfl⟩)
            go_round
            all_goals (first | exact ⟨k + 1, hlt, by go_num, by simp only [refUp_succ, er.out, et.out]⟩ | (simp [intOf]; omega))
          · have et : Hid (sumTerm s true k = bt s k - 256) := Lib.hid (by unfold sumTerm; rw [if_neg hm]; simp [hc])
            clear hm
            go_wp2_with ((refine (within_no' hn _).mono ?_); rintro e w' ⟨rfl, rfl⟩)
            go_round
            all_goals (first | exact ⟨k + 1, hlt, by go_num, by simp only [refUp_succ, er.out, et.out]; congr 1; omega⟩ | (simp [intOf]; omega))
          · have et : Hid (sumTerm s true k = bt s k) := Lib.hid (by unfold sumTerm; rw [if_neg hm]; simp; omega)
            clear hm
            go_wp2_with ((refine (within_no' hn _).mono ?_); rintro e w' ⟨rfl, rfl⟩)
            go_round
            all_goals (first | exact ⟨k + 1, hlt, by go_num, by simp only [refUp_succ, er.out, et.out]⟩ | (simp [intOf]; omega))
      · have he : Hid (k = s.size) := Lib.hid (by omega)
        go_wp2_with fail
        go_ret2
        exact ⟨ret_val (by rw [e1.out, e2.out, he.out]; rfl), (by show Below _ _ _; repeat' (first | (with_reducible exact Below.refl _ _) | (with_reducible assumption) | (with_reducible refine belowDrewN ?_ _) | (with_reducible refine Below.alloc ?_ ?_ _) | (with_reducible refine Below.drew ?_) | (with_reducible refine Below.setCell ?_ ?_ _) | go_size))⟩
  · have e1 : Hid (sumV s sg = 0) := Lib.hid (by unfold sumV; rw [if_neg h])
    have e2 : Hid (sumE s = 1) := Lib.hid (by unfold sumE; rw [if_neg h])
    have hq : ((s.size : Int) != 512) = true := by simp; omega
    clear h
    go_enter Tryz.func108, Tryz.ntmps108
    go_wp2_with fail
    go_ret2
    exact ⟨ret_val (by rw [e1.out, e2.out]; rfl), (by show Below _ _ _; repeat' (first | (with_reducible exact Below.refl _ _) | (with_reducible assumption) | (with_reducible refine belowDrewN ?_ _) | (with_reducible refine Below.alloc ?_ ?_ _) | (with_reducible refine Below.drew ?_) | (with_reducible refine Below.setCell ?_ ?_ _) | go_size))⟩
end Go.Proofs.YtiiaoagobjgkiaaGreatDoor
