/-
  The reference's NumberRead at a field by the base 256.
-/
import Derived.Test.YtiiaoagobjgkiaaGreatDoorWide
namespace Go.Proofs.YtiiaoagobjgkiaaGreatDoor
open Go.RowKit Go.PlainAid

theorem notEmpty {s : ByteArray} (h : 0 < s.size) : s.toList.isEmpty = false := by
  rw [ByteArray.toList_eq]
  obtain ⟨⟨l⟩⟩ := s
  cases l with
  | nil => exact absurd h (by decide)
  | cons x t => rfl

/-- Between two rounds: the number is not negative. -/
def WpRel (s : ByteArray) (w : World) (h l i : Value) (wr : World) : Prop := ∃ (n : Int) (k : Nat), 1 ≤ k ∧ k ≤ s.size ∧ 0 ≤ n ∧ n ≤ 9223372036854775807 ∧ h = .int .u64 0 ∧ l = .int .u64 n ∧ i = .int .i64 (k : Int) ∧ Hid (wd s n k (s.size - k) = wdR s) ∧ Ext w wr

set_option maxHeartbeats 1600000 in
set_option maxRecDepth 100000 in
theorem refWide_pos (s : ByteArray) (w : World) (h0 : 0 < s.size) (hs : s.size ≤ 100000) (h128 : 128 ≤ bt s 0) (h255 : bt s 0 < 255) : Calls Tryz.prog 75 #[.string s] w fun e w' => e = .returned (.tuple #[.int .i64 (wdV (wdR s)), .int .i64 (wdE (wdR s))]) ∧ Ext w w' := by
  have hb := get_bt s
  have h0' : (0 : Int) < s.size := by omega
  have hemp := notEmpty h0
  have hR : Hid (wd s (bt s 0 - 128) 1 (s.size - 1) = wdR s) := Lib.hid (by
    unfold wdR
    have : wd0 s = bt s 0 - 128 := by unfold wd0; rw [if_neg (by omega)]; omega
    rw [this])
  have hq : (bt s 0 == 255) = false := by rw [beq_eq_false_iff_ne]; omega
  go_enter Tryz.func75, Tryz.ntmps75
  go_wp2_with fail
  go_loopw [5, 6, 7] (fun h l i wr => WpRel s w h l i wr) (fun _ _ i _ => (s.size - intOf i).toNat)
  case atStart => exact ⟨bt s 0 - 128, 1, Nat.le_refl _, h0, by omega, by omega, rfl, rfl, rfl, hR, Ext.refl _⟩
  case round =>
    obtain ⟨n, k, hk1, hk, l1, l2, rfl, rfl, rfl, hrel, hE⟩ := hrel
    have c1 := bt_nonneg s k
    have c2 : bt s k < 256 := by have := bt_le s k; omega
    by_cases hlt : k < s.size
    · by_cases hr : n < 36028797018963968
      · have hgd := Lib.hid (wd_good hlt hr (by omega))
        have e1 : bits .or .u64 0 (n / 72057594037927936) = 0 := by rw [or_byte_u64 (by omega) (by omega) (by omega) (by omega) (by omega)]; omega
        have e2 : bits .or .u64 (n * 256) (bt s k) = n * 256 + bt s k := or_byte_u64 (by omega) c1 c2 (by omega) (by omega)
        have q1 : decide (9223372036854775808 ≤ n * 256 + bt s k) = false := decide_eq_false (by omega)
        go_wp2_with fail
        refine wp_region_det (Stood _) (by kernel_rfl) (by kernel_rfl) (Stood.start _) ?_
        repeat (first
          | (refine det_skip (by rfl) ?_; simp only [Act.put, List.setIfInBounds_toArray, List.set_cons_zero, List.set_cons_succ])
          | (refine det_op (v := ?_) rfl (by rfl) (fun w' hS => ?_) ?_; rotate_left; (focus (obtain ⟨hcl, hxt⟩ := hS; go_wp2_with (fail); (first | refine ⟨?_, rfl, hcl, hxt⟩ | refine ⟨?_, rfl, Stood.of (hxt.trans (by assumption))⟩); (first | (simp only [List.getElem?_toArray, List.getElem?_cons_succ, List.getElem?_cons_zero]; rfl) | rfl))); simp only [Act.put, List.setIfInBounds_toArray, List.set_cons_zero, List.set_cons_succ]))
        refine det_end ?_
        intro w2 hS
        have hx := hS.2
        clear hS
        go_wp2_with fail
        go_roundw
        case rel => exact ⟨n * 256 + bt s k, k + 1, by omega, hlt, by omega, by omega, rfl, rfl, by go_num, Lib.hid (by rw [← hrel.out, hgd.out, Int.mul_comm 256 n]), hE.trans hx⟩
        case measure => simp [intOf]; omega
      · have hbd := Lib.hid (wd_bad (n := n) hlt (by omega))
        have e0 : Hid (wdR s = none) := Lib.hid (by rw [← hrel.out, hbd.out])
        by_cases hr2 : n < 72057594037927936
        · have e1 : bits .or .u64 0 (n / 72057594037927936) = 0 := by rw [or_byte_u64 (by omega) (by omega) (by omega) (by omega) (by omega)]; omega
          have e2 : bits .or .u64 (n * 256) (bt s k) = n * 256 + bt s k := or_byte_u64 (by omega) c1 c2 (by omega) (by omega)
          have q1 : decide (9223372036854775808 ≤ n * 256 + bt s k) = true := decide_eq_true (by omega)
          go_wp2_with fail
          refine wp_region_det (Stood _) (by kernel_rfl) (by kernel_rfl) (Stood.start _) ?_
          repeat (first
            | (refine det_skip (by rfl) ?_; simp only [Act.put, List.setIfInBounds_toArray, List.set_cons_zero, List.set_cons_succ])
            | (refine det_op (v := ?_) rfl (by rfl) (fun w' hS => ?_) ?_; rotate_left; (focus (obtain ⟨hcl, hxt⟩ := hS; go_wp2_with (fail); (first | refine ⟨?_, rfl, hcl, hxt⟩ | refine ⟨?_, rfl, Stood.of (hxt.trans (by assumption))⟩); (first | (simp only [List.getElem?_toArray, List.getElem?_cons_succ, List.getElem?_cons_zero]; rfl) | rfl))); simp only [Act.put, List.setIfInBounds_toArray, List.set_cons_zero, List.set_cons_succ]))
          refine det_end ?_
          intro w2 hS
          have hx := hS.2
          clear hS
          go_wp2_with fail
          go_ret2
          exact ⟨ret_val (by rw [e0.out]; rfl), hE.trans hx⟩
        · have e1 : (bits .or .u64 0 (n / 72057594037927936) != 0) = true := by rw [or_byte_u64 (by omega) (by omega) (by omega) (by omega) (by omega), bne_iff_ne]; omega
          go_wp2_with fail
          refine wp_region_det (Stood _) (by kernel_rfl) (by kernel_rfl) (Stood.start _) ?_
          repeat (first
            | (refine det_skip (by rfl) ?_; simp only [Act.put, List.setIfInBounds_toArray, List.set_cons_zero, List.set_cons_succ])
            | (refine det_op (v := ?_) rfl (by rfl) (fun w' hS => ?_) ?_; rotate_left; (focus (obtain ⟨hcl, hxt⟩ := hS; go_wp2_with (fail); (first | refine ⟨?_, rfl, hcl, hxt⟩ | refine ⟨?_, rfl, Stood.of (hxt.trans (by assumption))⟩); (first | (simp only [List.getElem?_toArray, List.getElem?_cons_succ, List.getElem?_cons_zero]; rfl) | rfl))); simp only [Act.put, List.setIfInBounds_toArray, List.set_cons_zero, List.set_cons_succ]))
          refine det_end ?_
          intro w2 hS
          have hx := hS.2
          clear hS
          go_wp2_with fail
          go_ret2
          exact ⟨ret_val (by rw [e0.out]; rfl), hE.trans hx⟩
    · have hen := Lib.hid (wd_end s n k (by omega))
      have e0 : Hid (wdR s = some n) := Lib.hid (by rw [← hrel.out, hen.out])
      go_wp2_with fail
      go_ret2
      exact ⟨ret_val (by rw [e0.out]; rfl), hE⟩

/-- Between two rounds: the number is negative. -/
def WnRel (s : ByteArray) (w : World) (h l i : Value) (wr : World) : Prop := ∃ (x : Int) (k : Nat), 1 ≤ k ∧ k ≤ s.size ∧ 9223372036854775808 ≤ x ∧ x ≤ 18446744073709551615 ∧ h = .int .u64 18446744073709551615 ∧ l = .int .u64 x ∧ i = .int .i64 (k : Int) ∧ Hid (wd s (x - 18446744073709551616) k (s.size - k) = wdR s) ∧ Ext w wr

set_option maxHeartbeats 1600000 in
set_option maxRecDepth 100000 in
theorem refWide_neg (s : ByteArray) (w : World) (h0 : 0 < s.size) (hs : s.size ≤ 100000) (h255 : bt s 0 = 255) : Calls Tryz.prog 75 #[.string s] w fun e w' => e = .returned (.tuple #[.int .i64 (wdV (wdR s)), .int .i64 (wdE (wdR s))]) ∧ Ext w w' := by
  have hb := get_bt s
  have h0' : (0 : Int) < s.size := by omega
  have hemp := notEmpty h0
  have hR : Hid (wd s (-1) 1 (s.size - 1) = wdR s) := Lib.hid (by
    unfold wdR
    have : wd0 s = -1 := by unfold wd0; rw [if_pos h255]
    rw [this])
  have hq : (bt s 0 == 255) = true := by rw [beq_iff_eq]; omega
  have h128 : 128 ≤ bt s 0 := by omega
  clear h255
  go_enter Tryz.func75, Tryz.ntmps75
  go_wp2_with fail
  go_loopw [5, 6, 7] (fun h l i wr => WnRel s w h l i wr) (fun _ _ i _ => (s.size - intOf i).toNat)
  case atStart => exact ⟨18446744073709551615, 1, Nat.le_refl _, h0, by omega, by omega, rfl, rfl, rfl, hR, Ext.refl _⟩
  case round =>
    obtain ⟨x, k, hk1, hk, l1, l2, rfl, rfl, rfl, hrel, hE⟩ := hrel
    have c1 := bt_nonneg s k
    have c2 : bt s k < 256 := by have := bt_le s k; omega
    by_cases hlt : k < s.size
    · by_cases hr : 18410715276690587648 ≤ x
      · have hgd := Lib.hid (wd_good (n := x - 18446744073709551616) hlt (by omega) (by omega))
        have L1 := Lib.hid l1
        have L2 := Lib.hid l2
        have R1 := Lib.hid hr
        have e1 : Hid (bits .or .u64 (IntKind.u64.wrap 4722366482869645213440) (x / 72057594037927936) = 18446744073709551615) := Lib.hid (by
          rw [IntKind.wrap_u64, or_byte_u64 (by omega) (by omega) (by omega) (by omega) (by omega)]; omega)
        have e2 : Hid (bits .or .u64 (IntKind.u64.wrap (x * 256)) (bt s k) = x * 256 - 4703919738795935662080 + bt s k) := Lib.hid (by
          rw [IntKind.wrap_u64, or_byte_u64 (by omega) c1 c2 (by omega) (by omega)]; omega)
        clear l1 l2 hr
        go_wp2_with fail
        refine wp_region_det (Stood _) (by kernel_rfl) (by kernel_rfl) (Stood.start _) ?_
        repeat (first
          | (refine det_skip (by rfl) ?_; simp only [Act.put, List.setIfInBounds_toArray, List.set_cons_zero, List.set_cons_succ])
          | (refine det_op (v := ?_) rfl (by rfl) (fun w' hS => ?_) ?_; rotate_left; (focus (obtain ⟨hcl, hxt⟩ := hS; go_wp2_with (fail); (first | refine ⟨?_, rfl, hcl, hxt⟩ | refine ⟨?_, rfl, Stood.of (hxt.trans (by assumption))⟩); (first | (simp only [List.getElem?_toArray, List.getElem?_cons_succ, List.getElem?_cons_zero]; rfl) | rfl))); simp only [Act.put, List.setIfInBounds_toArray, List.set_cons_zero, List.set_cons_succ]))
        refine det_end ?_
        intro w2 hS
        have hx := hS.2
        clear hS
        generalize bits .or .u64 (IntKind.u64.wrap 4722366482869645213440) (x / 72057594037927936) = H at e1 ⊢
        generalize bits .or .u64 (IntKind.u64.wrap (x * 256)) (bt s k) = L at e2 ⊢
        have t1 : (H != 18446744073709551615) = false := by rw [e1.out]; rfl
        have t2 : decide (L < 9223372036854775808) = false := decide_eq_false (by have := e2.out; have := R1.out; omega)
        go_wp2_with fail
        go_roundw
        case rel => exact ⟨L, k + 1, by omega, hlt, by have := e2.out; have := R1.out; omega, by have := e2.out; have := L2.out; omega, congrArg _ e1.out, rfl, by go_num, Lib.hid (by rw [← hrel.out, hgd.out, e2.out]; congr 1; omega), hE.trans hx⟩
        case measure => simp [intOf]; omega
      · have hbd := Lib.hid (wd_bad (n := x - 18446744073709551616) hlt (by omega))
        have e0 : Hid (wdR s = none) := Lib.hid (by rw [← hrel.out, hbd.out])
        have L1 := Lib.hid l1
        have R1 := Lib.hid hr
        have e1 : Hid (bits .or .u64 (IntKind.u64.wrap 4722366482869645213440) (x / 72057594037927936) = 18446744073709551360 + x / 72057594037927936) := Lib.hid (by
          rw [IntKind.wrap_u64, or_byte_u64 (by omega) (by omega) (by omega) (by omega) (by omega)]; omega)
        have e2 : Hid (bits .or .u64 (IntKind.u64.wrap (x * 256)) (bt s k) = (x * 256) % 18446744073709551616 + bt s k) := Lib.hid (by
          rw [IntKind.wrap_u64, or_byte_u64 (by omega) c1 c2 (by omega) (by omega)])
        clear l1 l2 hr
        go_wp2_with fail
        refine wp_region_det (Stood _) (by kernel_rfl) (by kernel_rfl) (Stood.start _) ?_
        repeat (first
          | (refine det_skip (by rfl) ?_; simp only [Act.put, List.setIfInBounds_toArray, List.set_cons_zero, List.set_cons_succ])
          | (refine det_op (v := ?_) rfl (by rfl) (fun w' hS => ?_) ?_; rotate_left; (focus (obtain ⟨hcl, hxt⟩ := hS; go_wp2_with (fail); (first | refine ⟨?_, rfl, hcl, hxt⟩ | refine ⟨?_, rfl, Stood.of (hxt.trans (by assumption))⟩); (first | (simp only [List.getElem?_toArray, List.getElem?_cons_succ, List.getElem?_cons_zero]; rfl) | rfl))); simp only [Act.put, List.setIfInBounds_toArray, List.set_cons_zero, List.set_cons_succ]))
        refine det_end ?_
        intro w2 hS
        have hx := hS.2
        clear hS
        generalize bits .or .u64 (IntKind.u64.wrap 4722366482869645213440) (x / 72057594037927936) = H at e1 ⊢
        generalize bits .or .u64 (IntKind.u64.wrap (x * 256)) (bt s k) = L at e2 ⊢
        rcases (show (H != 18446744073709551615) = true ∨ ((H != 18446744073709551615) = false ∧ decide (L < 9223372036854775808) = true) by
          have a1 := e1.out
          have a2 := e2.out
          have a3 := R1.out
          have a4 := L1.out
          by_cases h : x / 72057594037927936 = 255
          · right; exact ⟨by rw [a1, h]; rfl, decide_eq_true (by omega)⟩
          · left; rw [a1, bne_iff_ne]; omega) with t1 | ⟨t1, t2⟩
        all_goals
          go_wp2_with fail
          go_ret2
          exact ⟨ret_val (by rw [e0.out]; rfl), hE.trans hx⟩
    · have hen := Lib.hid (wd_end s (x - 18446744073709551616) k (by omega))
      have e0 : Hid (wdR s = some (x - 18446744073709551616)) := Lib.hid (by rw [← hrel.out, hen.out])
      have e1 : Hid (wrap64 x = x - 18446744073709551616) := Lib.hid (by rw [← i64_is]; exact i64_high l1 l2)
      clear l1 l2
      go_wp2_with fail
      go_ret2
      exact ⟨ret_val (by rw [e0.out]; simp only [wdV, wdE, Option.getD_some, Option.isSome_some, if_true]; rw [← e1.out]; rfl), hE⟩
end Go.Proofs.YtiiaoagobjgkiaaGreatDoor
