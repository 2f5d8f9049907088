/-
  The reference's ModeChange: a mode out of range, and octal digits. No conditions but the text's length.
-/
import Derived.Test.YtbofobakphlpbaaDoorChgR
namespace Go.Proofs.YtbofobakphlpbaaDoor
open Go.RowKit Go.WideShapes Go.PlainAid

set_option maxHeartbeats 1600000 in
set_option maxRecDepth 100000 in
theorem refChange_rng (m : Int) (s : ByteArray) (dir : Bool) (h : m < 0 ∨ 4095 < m) (w : World) : Calls Tryd.prog 7 #[.int .i64 m, .string s, .bool dir] w fun e w' => e = .returned (.tuple #[.int .i64 0, .int .i64 2]) ∧ Ext w w' := by
  have cn := fun w => within_no' (n := m) (low := 0) (high := 4095) h w
  clear h
  go_enter Tryd.func7, Tryd.ntmps7
  go_wp2_with (first | ((with_reducible refine (cn _).mono ?_); rintro e w' ⟨rfl, hw⟩; subst w'))
  go_ret2
  exact ⟨rfl, (by show Below _ _ _; repeat' (first | (with_reducible exact Below.refl _ _) | (with_reducible assumption) | (with_reducible refine belowDrewN ?_ _) | (with_reducible refine Below.alloc ?_ ?_ _) | (with_reducible refine Below.drew ?_) | (with_reducible refine Below.setCell ?_ ?_ _) | go_size))⟩
theorem isOct_iff (c : UInt8) : isOct c = true ↔ 48 ≤ c.toNat ∧ c.toNat ≤ 55 := by
  unfold isOct
  simp
theorem allO_tw {s : ByteArray} (h : AllO s) : s.data.toList.takeWhile isOct = s.data.toList ∧ s.data.toList.dropWhile isOct = [] := by
  have : ∀ c ∈ s.data.toList, isOct c = true := fun c hc => by
    obtain ⟨j, hj, rfl⟩ := List.getElem_of_mem hc
    obtain ⟨a1, a2⟩ := bt_some (List.getElem?_eq_getElem hj)
    have := h j a1
    rw [a2] at this
    exact (isOct_iff _).2 ⟨by omega, by omega⟩
  exact span_of (by rw [List.append_nil]) this (fun c t h => by cases h)
theorem ext_of_list {s t : ByteArray} (h : t.data.toList = s.data.toList) : t = s := by
  obtain ⟨⟨a⟩⟩ := s
  obtain ⟨⟨b⟩⟩ := t
  obtain rfl : b = a := h
  rfl
set_option maxHeartbeats 1600000 in
set_option maxRecDepth 100000 in
theorem refChange_oct (m : Int) (s : ByteArray) (dir : Bool) (h0 : 0 ≤ m) (h1 : m ≤ 4095) (hs : s.size ≤ 1000) (hz : 0 < s.size) (h : AllO s) (w : World) : Calls Tryd.prog 7 #[.int .i64 m, .string s, .bool dir] w fun e w' =>
    e = .returned (if 4095 < octK 5000 s s.size then .tuple #[.int .i64 0, .int .i64 2] else .tuple #[.int .i64 (octK 5000 s s.size), .int .i64 0]) ∧ Ext w w' := by
  obtain ⟨V, hV⟩ : ∃ V, V = (if 4095 < octK 5000 s s.size then (.tuple #[.int .i64 0, .int .i64 2] : Value) else .tuple #[.int .i64 (octK 5000 s s.size), .int .i64 0]) := ⟨_, rfl⟩
  rw [← hV]
  have HV := Lib.hid hV
  clear hV
  have cy := fun w => within_yes' (n := m) (low := 0) (high := 4095) h0 h1 w
  have CO := Lib.hid (fun w => only_any s ⟨#[48, 49, 50, 51, 52, 53, 54, 55]⟩ hs isOct oct_ix w)
  have tw := Lib.hid (allO_tw h)
  have H := Lib.hid h
  have z1 := emp_f hz
  have hb := get_bt s
  clear h
  go_enter Tryd.func7, Tryd.ntmps7
  go_wp2_with (first | ((with_reducible refine (cy _).mono ?_); rintro e w' ⟨rfl, hw⟩; subst w'))
  refine (CO.out _).mono ?_; rintro e w1 ⟨t, r, rfl, ht, hr, hts, hrs, hx1⟩
  obtain rfl : t = s := ext_of_list (ht.out.trans tw.out.1)
  have z2 := emp_t (hr.out.trans tw.out.2)
  clear ht hr hts hrs tw
  go_wp2_with fail
  go_loop [10, 41] (fun n i => ∃ k : Nat, k ≤ t.size ∧ n = .int .i64 (octK 5000 t k) ∧ i = .int .i64 (k : Int)) (fun _ i => t.size - (intOf i).toNat)
  case atStart => exact ⟨0, by omega, rfl, rfl⟩
  case round =>
    obtain ⟨k, hk, rfl, rfl⟩ := hrel
    have hr := octK_rng 5000 (by decide) t k fun j hj => H.out j (by omega)
    by_cases hlt : k < t.size
    · have hd := H.out k hlt
      have hst := Lib.hid (show octK 5000 t (k + 1) = min (8 * octK 5000 t k + (bt t k - 48)) 5000 from rfl)
      generalize octK 5000 t k = n at *
      go_wp2_with fail
      go_round
      case rel => exact ⟨k + 1, by omega, by rw [hst.out]; go_num, by go_num⟩
      case measure => simp [intOf]; omega
    · obtain rfl : k = t.size := by omega
      generalize octK 5000 t t.size = n at HV hr ⊢
      by_cases hn : 4095 < n
      · have hv := HV.out
        rw [if_pos hn] at hv
        replace hv := Lib.hid hv
        have q3 : decide (4095 < n) = true := decide_eq_true hn
        clear hn
        go_wp2_with fail
        go_ret2
        exact ⟨ret_val (by rw [hv.out]; rfl), hx1⟩
      · have hv := HV.out
        rw [if_neg hn] at hv
        replace hv := Lib.hid hv
        have q3 : decide (4095 < n) = false := decide_eq_false hn
        clear hn
        go_wp2_with fail
        go_ret2
        exact ⟨ret_val (by rw [hv.out]; rfl), hx1⟩
end Go.Proofs.YtbofobakphlpbaaDoor
