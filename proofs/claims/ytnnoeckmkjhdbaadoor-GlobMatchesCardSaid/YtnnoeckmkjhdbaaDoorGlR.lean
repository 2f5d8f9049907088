/-
  The reference's letters of patterns. No conditions but bounds.
-/
import Derived.Test.YtnnoeckmkjhdbaaDoorGlV
import Derived.Test.YtnnoeckmkjhdbaaDoorDet
namespace Go.Proofs.YtnnoeckmkjhdbaaDoor
open Go.RowKit Go.PlainAid

theorem gl_emp (s : ByteArray) : s.toList.isEmpty = decide (s.size = 0) := by
  rw [ByteArray.toList_eq]
  obtain ⟨⟨l⟩⟩ := s
  cases l <;> simp [ByteArray.size]
theorem gl_one (s : ByteArray) (c : UInt8) : (s.toList == [c]) = (decide (s.size = 1) && (bt s 0 == (c.toNat : Int))) := by
  rw [ByteArray.toList_eq]
  obtain ⟨⟨l⟩⟩ := s
  match l with
  | [] => simp [ByteArray.size]
  | [x] =>
    have e : bt (⟨⟨[x]⟩⟩ : ByteArray) 0 = (x.toNat : Int) := by
      unfold bt
      rw [dif_pos (by simp [ByteArray.size])]
      rfl
    rw [e]
    by_cases h : x = c
    · subst h
      simp [ByteArray.size]
    · have h2 : (x.toNat : Int) ≠ (c.toNat : Int) := fun e => h (UInt8.toNat_inj.1 (by omega))
      have h3 : ((x.toNat : Int) == (c.toNat : Int)) = false := by simpa using h2
      rw [h3]
      simp [h]
  | x :: y :: l => simp [ByteArray.size]
theorem bt_el {s : ByteArray} {k : Nat} (h : k < s.size) : bt s k = ((s[k]'h).toNat : Int) := by
  unfold bt
  exact dif_pos h
/-- What a letter gives. -/
def letR : Option (Int × ByteArray) → Value
  | none => .tuple #[.int .u8 0, .string ⟨#[]⟩, .bool false]
  | some (c, r) => .tuple #[.int .u8 c, .string r, .bool true]
set_option maxHeartbeats 1600000 in
set_option maxRecDepth 100000 in
theorem glLetter_any (s : ByteArray) (hs : s.size ≤ 100000) (w : World) : Calls Tryd.prog 13 #[.string s] w fun x w' => x = .returned (letR (letV s)) ∧ Ext w w' := by
  have e1 := gl_emp s
  have e2 := gl_one s 92
  rw [show ((92 : UInt8).toNat : Int) = 92 from rfl] at e2
  by_cases h0 : s.size = 0
  · have hv : Hid (letV s = none) := Lib.hid (if_pos (.inl h0))
    rw [decide_eq_true h0] at e1
    clear e2 h0
    go_enter Tryd.func13, Tryd.ntmps13
    go_wp2_with fail
    go_ret3
    exact ⟨ret_val (by rw [hv.out]; rfl), (by show Below _ _ _; repeat' (first | (with_reducible exact Below.refl _ _) | (with_reducible assumption) | (with_reducible refine belowDrewN ?_ _) | (with_reducible refine Below.alloc ?_ ?_ _) | (with_reducible refine Below.drew ?_) | (with_reducible refine Below.setCell ?_ ?_ _) | go_size))⟩
  · rw [decide_eq_false h0] at e1
    by_cases h1 : s.size = 1 ∧ bt s 0 = 92
    · have hv : Hid (letV s = none) := Lib.hid (if_pos (.inr h1))
      rw [decide_eq_true h1.1, h1.2, beq_self_eq_true, Bool.and_true] at e2
      clear h0 h1
      go_enter Tryd.func13, Tryd.ntmps13
      go_wp2_with fail
      go_ret3
      exact ⟨ret_val (by rw [hv.out]; rfl), (by show Below _ _ _; repeat' (first | (with_reducible exact Below.refl _ _) | (with_reducible assumption) | (with_reducible refine belowDrewN ?_ _) | (with_reducible refine Below.alloc ?_ ?_ _) | (with_reducible refine Below.drew ?_) | (with_reducible refine Below.setCell ?_ ?_ _) | go_size))⟩
    · have e3 : (s.toList == [92]) = false := by
        rw [e2, Bool.and_eq_false_iff]
        by_cases h2 : s.size = 1
        · right
          simpa using fun e => h1 ⟨h2, e⟩
        · left
          simpa using h2
      have hz : 0 < s.size := by omega
      have i0 : (0 : Int) < (s.size : Int) := by omega
      have b0 : ((s[0]'hz).toNat : Int) = bt s 0 := (bt_el hz).symm
      have i3 : (1 : Int) ≤ (s.size : Int) := by omega
      by_cases h3 : bt s 0 = 92
      · have hz2 : 1 < s.size := by
          rcases Nat.lt_or_ge 1 s.size with h | h
          · exact h
          · exact absurd ⟨by omega, h3⟩ h1
        have i1 : (1 : Int) < (s.size : Int) := by omega
        have b1 : ((s[1]'hz2).toNat : Int) = bt s 1 := (bt_el hz2).symm
        have i2 : (2 : Int) ≤ (s.size : Int) := by omega
        have hv : Hid (letV s = some (bt s 1, suf s 2)) := Lib.hid (by
          unfold letV
          rw [if_neg (by rintro (h | h); exact h0 h; exact h1 h), if_pos h3])
        have q3 : (bt s 0 == 92) = true := by rw [h3]; rfl
        clear e2 h0 h1 h3
        go_enter Tryd.func13, Tryd.ntmps13
        go_wp2_with fail
        refine wp_region_det (Stood _) (by kernel_rfl) (by kernel_rfl) (Stood.start _) ?_
        repeat (first
          | (refine det_skip (by rfl) ?_; simp only [Act.put, List.setIfInBounds_toArray, List.set_cons_zero, List.set_cons_succ])
          | (refine det_op (v := ?_) rfl (by rfl) (fun w' hS => ?_) ?_; rotate_left; (focus (obtain ⟨hcl, hxt⟩ := hS; go_wp2_with (fail); (first | refine ⟨?_, rfl, hcl, hxt⟩ | refine ⟨?_, rfl, Stood.of (hxt.trans (by assumption))⟩); (first | (simp only [List.getElem?_toArray, List.getElem?_cons_succ, List.getElem?_cons_zero]; rfl) | rfl))); simp only [Act.put, List.setIfInBounds_toArray, List.set_cons_zero, List.set_cons_succ]))
        refine det_end ?_
        intro w8 hS
        have hx8 := hS.2
        clear hS
        go_wp2_with fail
        go_ret3
        exact ⟨ret_val (by rw [hv.out]; rfl), hx8⟩
      · have hv : Hid (letV s = some (bt s 0, suf s 1)) := Lib.hid (by
          unfold letV
          rw [if_neg (by rintro (h | h); exact h0 h; exact h1 h), if_neg h3])
        have q3 : (bt s 0 == 92) = false := by simpa using h3
        clear e2 h0 h1 h3
        go_enter Tryd.func13, Tryd.ntmps13
        go_wp2_with fail
        refine wp_region_det (Stood _) (by kernel_rfl) (by kernel_rfl) (Stood.start _) ?_
        repeat (first
          | (refine det_skip (by rfl) ?_; simp only [Act.put, List.setIfInBounds_toArray, List.set_cons_zero, List.set_cons_succ])
          | (refine det_op (v := ?_) rfl (by rfl) (fun w' hS => ?_) ?_; rotate_left; (focus (obtain ⟨hcl, hxt⟩ := hS; go_wp2_with (fail); (first | refine ⟨?_, rfl, hcl, hxt⟩ | refine ⟨?_, rfl, Stood.of (hxt.trans (by assumption))⟩); (first | (simp only [List.getElem?_toArray, List.getElem?_cons_succ, List.getElem?_cons_zero]; rfl) | rfl))); simp only [Act.put, List.setIfInBounds_toArray, List.set_cons_zero, List.set_cons_succ]))
        refine det_end ?_
        intro w8 hS
        have hx8 := hS.2
        clear hS
        go_wp2_with fail
        go_ret3
        exact ⟨ret_val (by rw [hv.out]; rfl), hx8⟩
end Go.Proofs.YtnnoeckmkjhdbaaDoor
