/-
  number.Read and the reference's NumberRead: both give readV.
-/
import Derived.Test.YtiiaoagobjgkiaaGreatDoorReadRef
import Derived.Test.YtiiaoagobjgkiaaGreatDoorShelf
import Derived.Shelf.Strings.SlTrimAscii
namespace Go.Proofs.YtiiaoagobjgkiaaGreatDoor
open Go.RowKit Go.PlainAid

def numVal (s : ByteArray) : Int := (readV s).1
def numErr (s : ByteArray) : Int := (readV s).2

theorem readV_wide {s : ByteArray} (h0 : 0 < s.size) (h : 128 ≤ bt s 0) : numVal s = wdV (wdR s) ∧ numErr s = wdE (wdR s) := by
  unfold numVal numErr readV
  rw [if_neg (by omega), if_pos h]
  cases wdR s <;> exact ⟨rfl, rfl⟩
theorem readV_oct {s : ByteArray} (h0 : 0 < s.size) (h : bt s 0 < 128) : numVal s = (od (cutF s) 0 0 (cutF s).size).1 ∧ numErr s = (od (cutF s) 0 0 (cutF s).size).2 := by
  unfold numVal numErr readV
  rw [if_neg (by omega), if_neg (by omega)]
  exact ⟨rfl, rfl⟩
theorem readV_none {s : ByteArray} (h0 : s.size = 0) : numVal s = 0 ∧ numErr s = 3 := by
  unfold numVal numErr readV
  rw [if_pos h0]
  exact ⟨rfl, rfl⟩

set_option maxRecDepth 100000 in
theorem refRead_any (s : ByteArray) (w : World) (hs : s.size ≤ 100000) : Calls Tryz.prog 75 #[.string s] w fun e w' => e = .returned (.tuple #[.int .i64 (numVal s), .int .i64 (numErr s)]) ∧ Ext w w' := by
  by_cases h0 : s.size = 0
  · obtain ⟨e1, e2⟩ := readV_none h0
    have z1 := isEmpty_of h0
    rw [e1, e2]
    clear e1 e2
    go_enter Tryz.func75, Tryz.ntmps75
    go_wp2_with fail
    go_ret2
    exact ⟨rfl, (by show Below _ _ _; repeat' (first | (with_reducible exact Below.refl _ _) | (with_reducible assumption) | (with_reducible refine belowDrewN ?_ _) | (with_reducible refine Below.alloc ?_ ?_ _) | (with_reducible refine Below.drew ?_) | (with_reducible refine Below.setCell ?_ ?_ _) | go_size))⟩
  · have h0' : 0 < s.size := by omega
    by_cases h : 128 ≤ bt s 0
    · obtain ⟨e1, e2⟩ := readV_wide h0' h
      rw [e1, e2]
      by_cases h2 : bt s 0 = 255
      · exact refWide_neg s w h0' hs h2
      · exact refWide_pos s w h0' hs h (by have := bt_le s 0; omega)
    · obtain ⟨e1, e2⟩ := readV_oct h0' (by omega)
      rw [e1, e2]
      exact refOct_any s w h0' hs (by omega)

theorem cutF_size (s : ByteArray) : (cutF s).size ≤ s.size := by
  show (Lib.trimRightS (Lib.trimLeftB s.data.toList 32) [32, 0]).toArray.size ≤ s.data.size
  unfold Lib.trimRightS Lib.trimLeftB
  simp only [List.size_toArray, List.length_reverse]
  refine Nat.le_trans (List.dropWhile_sublist _).length_le ?_
  rw [List.length_reverse]
  exact Nat.le_trans (List.dropWhile_sublist _).length_le (by simp)

theorem trimL_any (s : ByteArray) (w : World) : Calls Tryz.prog 176 #[.string s, .string ⟨#[32]⟩] w fun e w' => e = .returned (.string ⟨(cutL s).toArray⟩) ∧ Ext w w' :=
  (Tryz.strings_TrimLeft_one s 32 (by decide) w).mono fun e w' ⟨h, k⟩ => ⟨h, by rw [k]; exact Ext.refl _⟩
theorem infoSet : (Tryz.prog.info? 252).map (fun i => (i.zero, i.size)) = some (some (.agg (Array.replicate 256 (.bool false))), 256) := by kernel_rfl
theorem trimR_any (s : ByteArray) (hs : s.size ≤ 100000) (w : World) : Calls Tryz.prog 175 #[.string ⟨(cutL s).toArray⟩, .string ⟨#[32, 0]⟩] w fun e w' => e = .returned (.string (cutF s)) ∧ Ext w w' :=
  Any.strings_TrimRight_laid Tryz.lays162 infoSet ⟨(cutL s).toArray⟩ ⟨#[32, 0]⟩ w (by
    show (Lib.trimLeftB s.data.toList 32).toArray.size ≤ _
    unfold Lib.trimLeftB
    have := (List.dropWhile_sublist (fun x => x == (32 : UInt8)) (l := s.data.toList)).length_le
    have e : s.data.toList.length = s.size := rfl
    simp only [List.size_toArray]
    omega) (by decide) (ascii_of_all (by decide))

/-- Between two rounds of the digits. -/
def RdRel (s : ByteArray) (w : World) (nn i : Value) (wr : World) : Prop := ∃ (n : Int) (k : Nat), k ≤ s.size ∧ 0 ≤ n ∧ n ≤ 9223372036854775807 ∧ nn = .int .i64 n ∧ i = .int .i64 (k : Int) ∧ Hid (od s n k (s.size - k) = od s 0 0 s.size) ∧ Ext w wr

set_option maxHeartbeats 1600000 in
set_option maxRecDepth 100000 in
theorem numRead_any (s : ByteArray) (w : World) (hs : s.size ≤ 100000) : Calls Tryz.prog 118 #[.string s] w fun e w' => e = .returned (.tuple #[.int .i64 (numVal s), errOf (numErr s)]) ∧ Ext w w' := by
  by_cases h0 : s.size = 0
  · obtain ⟨e1, e2⟩ := readV_none h0
    have z1 := isEmpty_of h0
    rw [e1, e2]
    clear e1 e2
    go_enter Tryz.func118, Tryz.ntmps118
    go_wp2_with fail
    go_ret2
    exact ⟨rfl, (by show Below _ _ _; repeat' (first | (with_reducible exact Below.refl _ _) | (with_reducible assumption) | (with_reducible refine belowDrewN ?_ _) | (with_reducible refine Below.alloc ?_ ?_ _) | (with_reducible refine Below.drew ?_) | (with_reducible refine Below.setCell ?_ ?_ _) | go_size))⟩
  · have h0' : 0 < s.size := by omega
    have z1 := notEmpty h0'
    have hb := get_bt s
    have z0 : (0 : Int) < s.size := by omega
    by_cases h : 128 ≤ bt s 0
    · obtain ⟨e1, e2⟩ := readV_wide h0' h
      have C1 := Lib.hid (fun w => wide_any s w h0' hs)
      have E1 := Lib.hid e1
      have E2 := Lib.hid e2
      clear e1 e2
      generalize wdV (wdR s) = a at *
      generalize wdE (wdR s) = b at *
      go_enter Tryz.func118, Tryz.ntmps118
      go_wp2_with fail
      refine (C1.out _).mono ?_; rintro e w1 ⟨rfl, hx1⟩
      go_wp2_with fail
      go_ret2
      exact ⟨ret_val (by rw [E1.out, E2.out]; rfl), hx1⟩
    · obtain ⟨e1, e2⟩ := readV_oct h0' (by omega)
      have E1 := Lib.hid e1
      have E2 := Lib.hid e2
      have C1 := Lib.hid (fun w => trimL_any s w)
      have C2 := Lib.hid (fun w => trimR_any s hs w)
      have hcs := cutF_size s
      clear e1 e2
      generalize (⟨(cutL s).toArray⟩ : ByteArray) = u at *
      generalize cutF s = t at *
      go_enter Tryz.func118, Tryz.ntmps118
      go_wp2_with fail
      refine (C1.out _).mono ?_; rintro e w1 ⟨rfl, hx1⟩
      go_wp2_with fail
      refine (C2.out _).mono ?_; rintro e w2 ⟨rfl, hx2⟩
      have hx := hx1.trans hx2
      obtain ⟨cap, C, kc, hC⟩ : ∃ cap C, (convert 9 144 (.string t)).run Tryz.prog w2 = .ok (.slice (some ⟨w2.heap.size, 0, none⟩) t.size cap) (w2.drew.alloc (.cells C 5 (C.size, C.size + 1))) ∧ ∀ k, k < t.size → C[k]? = some (.int .u8 (bt t k)) :=
        ⟨_, _, run_bytes_of_string w2 9 144 5 t Tryz.underlying9 Tryz.underlying144 Tryz.underlying5, fun k hk => by
          have hk' : k < t.data.size := hk
          rw [bytesRow_at t _ k hk', ← get_bt t k hk]; rfl⟩
      have hc : ∀ k : Nat, k < t.size → (w2.alloc (.cells C 5 (C.size, C.size + 1))).cell? ⟨w2.heap.size, k, none⟩ = some (.int .u8 (bt t k)) := fun k hk => by
        have := World.cell?_alloc_mark w2 C 5 (C.size, C.size + 1) k
        rw [hC k hk] at this
        exact this
      have Hc := Lib.hid hc
      clear hc
      go_wp2_with fail
      go_loop [4, 22] (fun nn i => ∃ (n : Int) (k : Nat), k ≤ t.size ∧ 0 ≤ n ∧ n ≤ 9223372036854775807 ∧ nn = .int .i64 n ∧ i = .int .i64 (k : Int) ∧ Hid (od t n k (t.size - k) = od t 0 0 t.size)) (fun _ i => (t.size - intOf i).toNat)
      case atStart => exact ⟨0, 0, Nat.zero_le _, by omega, by omega, rfl, rfl, Lib.hid rfl⟩
      case round =>
        obtain ⟨n, k, hk, l1, l2, rfl, rfl, hrel⟩ := hrel
        have c1 := bt_nonneg t k
        have c2 : bt t k < 256 := by have := bt_le t k; omega
        by_cases hlt : k < t.size
        · have ck := Hc.out k hlt
          rcases (show (bt t k < 48) ∨ (48 ≤ bt t k ∧ 55 < bt t k) ∨ (48 ≤ bt t k ∧ bt t k ≤ 55) by omega) with d1 | ⟨d1, d2⟩ | ⟨d1, d2⟩
          · have q1 : decide (bt t k < 48) = true := decide_eq_true d1
            have hfm := Lib.hid (od_form (n := n) hlt (.inl d1))
            have e0 : Hid (od t 0 0 t.size = (0, 3)) := Lib.hid (by rw [← hrel.out, hfm.out])
            go_wp2_with fail
            go_ret2
            exact ⟨ret_val (by rw [E1.out, E2.out, e0.out]; rfl), hx.trans (by show Below _ _ _; repeat' (first | (with_reducible exact Below.refl _ _) | (with_reducible assumption) | (with_reducible refine belowDrewN ?_ _) | (with_reducible refine Below.alloc ?_ ?_ _) | (with_reducible refine Below.drew ?_) | (with_reducible refine Below.setCell ?_ ?_ _) | go_size))⟩
          · have q1 : decide (bt t k < 48) = false := decide_eq_false (by omega)
            have q2 : decide (55 < bt t k) = true := decide_eq_true d2
            have hfm := Lib.hid (od_form (n := n) hlt (.inr d2))
            have e0 : Hid (od t 0 0 t.size = (0, 3)) := Lib.hid (by rw [← hrel.out, hfm.out])
            go_wp2_with fail
            go_ret2
            exact ⟨ret_val (by rw [E1.out, E2.out, e0.out]; rfl), hx.trans (by show Below _ _ _; repeat' (first | (with_reducible exact Below.refl _ _) | (with_reducible assumption) | (with_reducible refine belowDrewN ?_ _) | (with_reducible refine Below.alloc ?_ ?_ _) | (with_reducible refine Below.drew ?_) | (with_reducible refine Below.setCell ?_ ?_ _) | go_size))⟩
          · have q1 : decide (bt t k < 48) = false := decide_eq_false (by omega)
            have q2 : decide (55 < bt t k) = false := decide_eq_false (by omega)
            by_cases hr : n < 1152921504606846976
            · have hgd := Lib.hid (od_good hlt d1 d2 hr)
              have q3 : decide (1152921504606846976 ≤ n) = false := decide_eq_false (by omega)
              go_wp2_with fail
              go_round
              case rel => exact ⟨8 * n + (bt t k - 48), k + 1, hlt, by omega, by omega, by go_num, by go_num, Lib.hid (by rw [← hrel.out, hgd.out])⟩
              case measure => simp [intOf]; omega
            · have hrg := Lib.hid (od_range (n := n) hlt d1 d2 (by omega))
              have e0 : Hid (od t 0 0 t.size = (0, 2)) := Lib.hid (by rw [← hrel.out, hrg.out])
              have q3 : decide (1152921504606846976 ≤ n) = true := decide_eq_true (by omega)
              go_wp2_with fail
              go_ret2
              exact ⟨ret_val (by rw [E1.out, E2.out, e0.out]; rfl), hx.trans (by show Below _ _ _; repeat' (first | (with_reducible exact Below.refl _ _) | (with_reducible assumption) | (with_reducible refine belowDrewN ?_ _) | (with_reducible refine Below.alloc ?_ ?_ _) | (with_reducible refine Below.drew ?_) | (with_reducible refine Below.setCell ?_ ?_ _) | go_size))⟩
        · have hen := Lib.hid (od_end t n k (by omega))
          have e0 : Hid (od t 0 0 t.size = (n, 0)) := Lib.hid (by rw [← hrel.out, hen.out])
          go_wp2_with fail
          go_ret2
          exact ⟨ret_val (by rw [E1.out, E2.out, e0.out]; rfl), hx.trans (by show Below _ _ _; repeat' (first | (with_reducible exact Below.refl _ _) | (with_reducible assumption) | (with_reducible refine belowDrewN ?_ _) | (with_reducible refine Below.alloc ?_ ?_ _) | (with_reducible refine Below.drew ?_) | (with_reducible refine Below.setCell ?_ ?_ _) | go_size))⟩
end Go.Proofs.YtiiaoagobjgkiaaGreatDoor
