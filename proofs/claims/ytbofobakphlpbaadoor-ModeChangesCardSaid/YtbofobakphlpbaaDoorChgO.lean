/-
  mode.octal: octal digits read. No conditions but the text's length.
-/
import Derived.Test.YtbofobakphlpbaaDoorNum
import Derived.PlainAid
namespace Go.Proofs.YtbofobakphlpbaaDoor
open Go.RowKit Go.WideShapes Go.PlainAid

theorem emp_t {t : ByteArray} (h : t.data.toList = []) : t.toList.isEmpty = true := by
  rw [ByteArray.toList_eq, h]
  rfl
theorem emp_f {t : ByteArray} (h : 0 < t.size) : t.toList.isEmpty = false := by
  rw [ByteArray.toList_eq]
  obtain ⟨⟨l⟩⟩ := t
  cases l with
  | nil => exact absurd h (by decide)
  | cons x r => rfl

/-- The digits so far, held below a bound. -/
def octK (cap : Int) (s : ByteArray) : Nat → Int
  | 0 => 0
  | k + 1 => min (8 * octK cap s k + (bt s k - 48)) cap
def AllO (s : ByteArray) : Prop := ∀ j, j < s.size → 48 ≤ bt s j ∧ bt s j ≤ 55
theorem octK_rng (cap : Int) (hc : 0 ≤ cap) (s : ByteArray) : ∀ k, (∀ j, j < k → 48 ≤ bt s j ∧ bt s j ≤ 55) → 0 ≤ octK cap s k ∧ octK cap s k ≤ cap
  | 0, _ => ⟨Int.le_refl _, hc⟩
  | k + 1, h => by
    have h1 := octK_rng cap hc s k fun j hj => h j (by omega)
    have h2 := h k (by omega)
    unfold octK
    omega
/-- Two bounds above 4095 tell the same. -/
theorem octK_two (a b : Int) (ha : 4095 < a) (hb : 4095 < b) (s : ByteArray) : ∀ k, (∀ j, j < k → 48 ≤ bt s j ∧ bt s j ≤ 55) →
    (octK a s k = octK b s k ∧ octK a s k ≤ 4095) ∨ (4095 < octK a s k ∧ 4095 < octK b s k)
  | 0, _ => .inl ⟨rfl, show (0 : Int) ≤ 4095 by decide⟩
  | k + 1, h => by
    have h0 := octK_two a b ha hb s k fun j hj => h j (by omega)
    have h1 := octK_rng a (by omega) s k fun j hj => h j (by omega)
    have h2 := octK_rng b (by omega) s k fun j hj => h j (by omega)
    have h3 := h k (by omega)
    unfold octK
    omega

set_option maxHeartbeats 1600000 in
set_option maxRecDepth 100000 in
theorem octal_all (s : ByteArray) (hs : s.size ≤ 1000) (h : AllO s) (w : World) : Calls Tryd.prog 24 #[.string s] w fun e w' => e = .returned (.tuple #[.int .i64 (octK 1048576 s s.size), .bool (!s.toList.isEmpty)]) ∧ Ext w w' := by
  have H := Lib.hid h
  have hb := get_bt s
  clear h
  go_enter Tryd.func24, Tryd.ntmps24
  go_wp2_with fail
  go_loop [4, 8] (fun n i => ∃ k : Nat, k ≤ s.size ∧ n = .int .i64 (octK 1048576 s k) ∧ i = .int .i64 (k : Int)) (fun _ i => s.size - (intOf i).toNat)
  case atStart => exact ⟨0, by omega, rfl, rfl⟩
  case round =>
    obtain ⟨k, hk, rfl, rfl⟩ := hrel
    have hr := octK_rng 1048576 (by decide) s k fun j hj => H.out j (by omega)
    by_cases hlt : k < s.size
    · have hd := H.out k hlt
      have hst := Lib.hid (show octK 1048576 s (k + 1) = min (8 * octK 1048576 s k + (bt s k - 48)) 1048576 from rfl)
      generalize octK 1048576 s k = n at *
      go_wp2_with fail
      go_round
      case rel => exact ⟨k + 1, by omega, by rw [hst.out]; go_num, by go_num⟩
      case measure => simp [intOf]; omega
    · obtain rfl : k = s.size := by omega
      generalize hn : octK 1048576 s s.size = n at *
      have Hn := Lib.hid hn
      clear hn
      go_wp2_with fail
      go_ret2
      exact ⟨ret_val (by rw [Hn.out]; rfl), (by show Below _ _ _; repeat' (first | (with_reducible exact Below.refl _ _) | (with_reducible assumption) | (with_reducible refine belowDrewN ?_ _) | (with_reducible refine Below.alloc ?_ ?_ _) | (with_reducible refine Below.drew ?_) | (with_reducible refine Below.setCell ?_ ?_ _) | go_size))⟩
set_option maxHeartbeats 1600000 in
set_option maxRecDepth 100000 in
theorem octal_bad (s : ByteArray) (hs : s.size ≤ 1000) (m : Nat) (hm : m < s.size) (h : ∀ j, j < m → 48 ≤ bt s j ∧ bt s j ≤ 55) (hx : bt s m < 48 ∨ 55 < bt s m) (w : World) : Calls Tryd.prog 24 #[.string s] w fun e w' => e = .returned (.tuple #[.int .i64 0, .bool false]) ∧ Ext w w' := by
  have H := Lib.hid h
  have hb := get_bt s
  clear h
  go_enter Tryd.func24, Tryd.ntmps24
  go_wp2_with fail
  go_loop [4, 8] (fun n i => ∃ k : Nat, k ≤ m ∧ n = .int .i64 (octK 1048576 s k) ∧ i = .int .i64 (k : Int)) (fun _ i => s.size - (intOf i).toNat)
  case atStart => exact ⟨0, by omega, rfl, rfl⟩
  case round =>
    obtain ⟨k, hk, rfl, rfl⟩ := hrel
    have hr := octK_rng 1048576 (by decide) s k fun j hj => H.out j (by omega)
    by_cases hlt : k < m
    · have hd := H.out k hlt
      have hst := Lib.hid (show octK 1048576 s (k + 1) = min (8 * octK 1048576 s k + (bt s k - 48)) 1048576 from rfl)
      generalize octK 1048576 s k = n at *
      go_wp2_with fail
      go_round
      case rel => exact ⟨k + 1, by omega, by rw [hst.out]; go_num, by go_num⟩
      case measure => simp [intOf]; omega
    · obtain rfl : k = m := by omega
      generalize octK 1048576 s k = n at *
      by_cases h48 : bt s k < 48
      · clear hx
        go_wp2_with fail
        go_ret2
        exact ⟨rfl, (by show Below _ _ _; repeat' (first | (with_reducible exact Below.refl _ _) | (with_reducible assumption) | (with_reducible refine belowDrewN ?_ _) | (with_reducible refine Below.alloc ?_ ?_ _) | (with_reducible refine Below.drew ?_) | (with_reducible refine Below.setCell ?_ ?_ _) | go_size))⟩
      · have h55 : 55 < bt s k := by omega
        clear hx
        go_wp2_with fail
        go_ret2
        exact ⟨rfl, (by show Below _ _ _; repeat' (first | (with_reducible exact Below.refl _ _) | (with_reducible assumption) | (with_reducible refine belowDrewN ?_ _) | (with_reducible refine Below.alloc ?_ ?_ _) | (with_reducible refine Below.drew ?_) | (with_reducible refine Below.setCell ?_ ?_ _) | go_size))⟩
end Go.Proofs.YtbofobakphlpbaaDoor
