/-
  When a pair is valid: pax.Right and the reference's PairRight.
-/
import Derived.Test.YtbofobakphlpbaaDoorAny
namespace Go.Proofs.YtbofobakphlpbaaDoor
open Go.RowKit

/-- A pair is valid. -/
def pairB (k v : ByteArray) : Bool := !k.toList.isEmpty && !anyB k && decide ((k.size : Int) + v.size ≤ 200)
theorem emptyB_size (k : ByteArray) : decide (0 < (k.size : Int)) = !k.toList.isEmpty := by
  rw [ByteArray.toList_eq]
  have e : k.size = k.data.toList.length := rfl
  rw [e]
  cases k.data.toList <;> simp

set_option maxHeartbeats 1600000 in
set_option maxRecDepth 100000 in
theorem paxRight_any (k v : ByteArray) (hk : k.size ≤ 4611686018427387) (hv : v.size ≤ 4611686018427387) (hk2 : k.size < 4294967281) (w : World) : Calls Tryd.prog 67 #[.agg #[.string k, .string v]] w fun e w' => e = .returned (.bool (pairB k v)) ∧ Ext w w' := by
  have c1 := fun w => containsAny_any k hk2 w
  have hd : Hid (pairB k v = (!k.toList.isEmpty && !anyB k && decide ((k.size : Int) + v.size ≤ 200))) := Lib.hid rfl
  generalize anyB k = a at *
  have C1 := Lib.hid c1
  clear c1 hk2
  cases he : k.toList.isEmpty with
  | true =>
    have He := Lib.hid he
    have he2 : (!k.toList.isEmpty) = false := by rw [he]; rfl
    go_enter Tryd.func67, Tryd.ntmps67
    go_wp2_with fail
    go_ret
    exact ⟨ret_bool (by rw [hd.out, He.out]; simp), (by show Below _ _ _; repeat' (first | (with_reducible exact Below.refl _ _) | (with_reducible assumption) | (with_reducible refine belowDrewN ?_ _) | (with_reducible refine Below.alloc ?_ ?_ _) | (with_reducible refine Below.drew ?_) | (with_reducible refine Below.setCell ?_ ?_ _) | go_size))⟩
  | false =>
    have He := Lib.hid he
    have he2 : (!k.toList.isEmpty) = true := by rw [he]; rfl
    cases a with
    | true =>
      go_enter Tryd.func67, Tryd.ntmps67
      go_wp2_with fail
      refine (C1.out _).mono ?_; rintro e w1 ⟨rfl, hx1⟩
      go_wp2_with fail
      go_ret
      exact ⟨ret_bool (by rw [hd.out]; simp), Ext.trans (by show Below _ _ _; repeat' (first | (with_reducible exact Below.refl _ _) | (with_reducible assumption) | (with_reducible refine belowDrewN ?_ _) | (with_reducible refine Below.alloc ?_ ?_ _) | (with_reducible refine Below.drew ?_) | (with_reducible refine Below.setCell ?_ ?_ _) | go_size)) hx1⟩
    | false =>
      go_enter Tryd.func67, Tryd.ntmps67
      go_wp2_with fail
      refine (C1.out _).mono ?_; rintro e w1 ⟨rfl, hx1⟩
      have g0 : w1.cell? ⟨w.heap.size, 0, none⟩ = some (.string k) := hx1.cell (by simp)
      have g1 : w1.cell? ⟨w.heap.size, 1, none⟩ = some (.string v) := hx1.cell (by simp)
      have gl : w.heap.size < w1.heap.size := World.block_lt_of_cell? w1 _ g0
      go_wp2_with fail
      go_ret
      exact ⟨ret_bool (by rw [hd.out, He.out]; simp), Ext.trans (by show Below _ _ _; repeat' (first | (with_reducible exact Below.refl _ _) | (with_reducible assumption) | (with_reducible refine belowDrewN ?_ _) | (with_reducible refine Below.alloc ?_ ?_ _) | (with_reducible refine Below.drew ?_) | (with_reducible refine Below.setCell ?_ ?_ _) | go_size)) hx1⟩

theorem idxByte_e (s : ByteArray) (c : Int) (z : Int) (hz : Lib.indexByte s.data.toList c.toNat.toUInt8 = z) (w : World) : Calls Tryd.prog 42 #[.string s, .int .u8 c] w fun e w' => e = .returned (.int .i64 z) ∧ w' = w := by
  have := Tryd.strings_IndexByte s c w
  rw [hz] at this
  exact this
set_option maxHeartbeats 1600000 in
set_option maxRecDepth 100000 in
theorem pairRight_any (k v : ByteArray) (hk : k.size ≤ 4611686018427387) (hv : v.size ≤ 4611686018427387) (w : World) : Calls Tryd.prog 64 #[.agg #[.string k, .string v]] w fun e w' => e = .returned (.bool (pairB k v)) ∧ Ext w w' := by
  obtain ⟨x, hx⟩ : ∃ x, Lib.indexByte k.data.toList 61 = x := ⟨_, rfl⟩
  obtain ⟨y, hy⟩ : ∃ y, Lib.indexByte k.data.toList 10 = y := ⟨_, rfl⟩
  have C1 := Lib.hid (fun w => idxByte_e k 61 x hx w)
  have C2 := Lib.hid (fun w => idxByte_e k 10 y hy w)
  have hd : Hid (pairB k v = (decide (0 < (k.size : Int)) && !(decide (0 ≤ x) || decide (0 ≤ y)) && decide ((k.size : Int) + v.size ≤ 200))) := Lib.hid (by unfold pairB anyB; rw [emptyB_size, hx, hy])
  clear hx hy
  by_cases h0 : 0 < (k.size : Int)
  · have q0 : decide (0 < (k.size : Int)) = true := decide_eq_true h0
    have q0n : decide (0 < k.size) = true := decide_eq_true (by omega)
    by_cases h2 : (k.size : Int) + v.size ≤ 200
    · have q2 : decide ((k.size : Int) + v.size ≤ 200) = true := decide_eq_true h2
      rcases (show (0 ≤ x) ∨ (x < 0 ∧ 0 ≤ y) ∨ (x < 0 ∧ y < 0) by omega) with q1 | ⟨q1, q3⟩ | ⟨q1, q3⟩
      · have q4 : decide (x < 0) = false := decide_eq_false (by omega)
        have Hf : Hid (pairB k v = false) := Lib.hid (by rw [hd.out, q0, q2, decide_eq_true q1]; rfl)
        clear h0 h2 q1
        go_enter Tryd.func64, Tryd.ntmps64
        go_wp2_with (first | ((with_reducible refine (C1.out _).mono ?_); rintro e w' ⟨rfl, hw⟩; subst w') | ((with_reducible refine (C2.out _).mono ?_); rintro e w' ⟨rfl, hw⟩; subst w'))
        go_ret
        exact ⟨ret_bool (by rw [Hf.out]), (by show Below _ _ _; repeat' (first | (with_reducible exact Below.refl _ _) | (with_reducible assumption) | (with_reducible refine belowDrewN ?_ _) | (with_reducible refine Below.alloc ?_ ?_ _) | (with_reducible refine Below.drew ?_) | (with_reducible refine Below.setCell ?_ ?_ _) | go_size))⟩
      · have q4 : decide (x < 0) = true := decide_eq_true q1
        have q5 : decide (y < 0) = false := decide_eq_false (by omega)
        have Hf : Hid (pairB k v = false) := Lib.hid (by rw [hd.out, q0, q2, decide_eq_true q3]; simp)
        clear h0 h2 q1 q3
        go_enter Tryd.func64, Tryd.ntmps64
        go_wp2_with (first | ((with_reducible refine (C1.out _).mono ?_); rintro e w' ⟨rfl, hw⟩; subst w') | ((with_reducible refine (C2.out _).mono ?_); rintro e w' ⟨rfl, hw⟩; subst w'))
        go_ret
        exact ⟨ret_bool (by rw [Hf.out]), (by show Below _ _ _; repeat' (first | (with_reducible exact Below.refl _ _) | (with_reducible assumption) | (with_reducible refine belowDrewN ?_ _) | (with_reducible refine Below.alloc ?_ ?_ _) | (with_reducible refine Below.drew ?_) | (with_reducible refine Below.setCell ?_ ?_ _) | go_size))⟩
      · have q4 : decide (x < 0) = true := decide_eq_true q1
        have q5 : decide (y < 0) = true := decide_eq_true q3
        have Hf : Hid (pairB k v = true) := Lib.hid (by rw [hd.out, q0, q2, decide_eq_false (show ¬ 0 ≤ x by omega), decide_eq_false (show ¬ 0 ≤ y by omega)]; rfl)
        clear h0 h2 q1 q3
        go_enter Tryd.func64, Tryd.ntmps64
        go_wp2_with (first | ((with_reducible refine (C1.out _).mono ?_); rintro e w' ⟨rfl, hw⟩; subst w') | ((with_reducible refine (C2.out _).mono ?_); rintro e w' ⟨rfl, hw⟩; subst w'))
        go_ret
        exact ⟨ret_bool (by rw [Hf.out]), (by show Below _ _ _; repeat' (first | (with_reducible exact Below.refl _ _) | (with_reducible assumption) | (with_reducible refine belowDrewN ?_ _) | (with_reducible refine Below.alloc ?_ ?_ _) | (with_reducible refine Below.drew ?_) | (with_reducible refine Below.setCell ?_ ?_ _) | go_size))⟩
    · have q2 : decide ((k.size : Int) + v.size ≤ 200) = false := decide_eq_false h2
      have Hf : Hid (pairB k v = false) := Lib.hid (by rw [hd.out, q0, q2]; simp)
      clear h0 h2
      go_enter Tryd.func64, Tryd.ntmps64
      go_wp2_with fail
      go_ret
      exact ⟨ret_bool (by rw [Hf.out]), (by show Below _ _ _; repeat' (first | (with_reducible exact Below.refl _ _) | (with_reducible assumption) | (with_reducible refine belowDrewN ?_ _) | (with_reducible refine Below.alloc ?_ ?_ _) | (with_reducible refine Below.drew ?_) | (with_reducible refine Below.setCell ?_ ?_ _) | go_size))⟩
  · have q0 : decide (0 < (k.size : Int)) = false := decide_eq_false h0
    have q0n : decide (0 < k.size) = false := decide_eq_false (by omega)
    have Hf : Hid (pairB k v = false) := Lib.hid (by rw [hd.out, q0]; rfl)
    clear h0
    go_enter Tryd.func64, Tryd.ntmps64
    go_wp2_with fail
    go_ret
    exact ⟨ret_bool (by rw [Hf.out]), (by show Below _ _ _; repeat' (first | (with_reducible exact Below.refl _ _) | (with_reducible assumption) | (with_reducible refine belowDrewN ?_ _) | (with_reducible refine Below.alloc ?_ ?_ _) | (with_reducible refine Below.drew ?_) | (with_reducible refine Below.setCell ?_ ?_ _) | go_size))⟩
end Go.Proofs.YtbofobakphlpbaaDoor
