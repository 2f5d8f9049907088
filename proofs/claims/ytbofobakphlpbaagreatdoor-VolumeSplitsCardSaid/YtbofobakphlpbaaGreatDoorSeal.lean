/-
  block.Seal and the reference's Seal: a header with its sum.
-/
import Derived.Test.YtbofobakphlpbaaGreatDoorOct
import Derived.Test.YtbofobakphlpbaaGreatDoorSum
namespace Go.Proofs.YtbofobakphlpbaaGreatDoor
open Go.RowKit Go.PlainAid

theorem sumUp_nonneg (s : ByteArray) : ∀ k, 0 ≤ sumUp s false k
  | 0 => by simp [sumUp]
  | k + 1 => by
    have := sumUp_nonneg s k
    have h1 : 0 ≤ sumTerm s false k := by
      have := bt_lo s k
      unfold sumTerm
      split
      · omega
      · simp; omega
    simp only [sumUp]
    omega
theorem sumV_rng (s : ByteArray) (h : s.size = 512) : 0 ≤ sumV s false ∧ sumV s false ≤ 131072 := by
  have h1 := sumUp_nonneg s 512
  have h2 := sumUp_hi s false 512
  unfold sumV
  rw [if_pos h, h]
  omega
theorem octE_sum (s : ByteArray) (h : s.size = 512) : octE (sumV s false) 7 = 0 := by
  have ⟨h1, h2⟩ := sumV_rng s h
  unfold octE mostI
  rw [if_neg (by omega), if_neg]
  rw [if_pos (by omega)]
  have : ((pw 8 ((7 : Int) - 1).toNat : Nat) : Int) = 262144 := by decide
  omega
/-- A header with its sum, and the error. -/
def sealS (s : ByteArray) : ByteArray := if s.size = 512 then s.extract 0 148 ++ octS (sumV s false) 7 ++ ⟨#[32]⟩ ++ s.extract 156 s.size else ⟨#[]⟩
theorem sealS_size (s : ByteArray) (h : s.size = 512) : (sealS s).size = 512 := by
  have h1 := octS_size (sumV s false) 7 (octE_sum s h)
  unfold sealS
  rw [if_pos h]
  simp only [ByteArray.size_append, ByteArray.size_extract]
  have : (⟨#[32]⟩ : ByteArray).size = 1 := rfl
  omega

set_option maxHeartbeats 1600000 in
set_option maxRecDepth 100000 in
theorem seal_any (s : ByteArray) (w : World) (hs : s.size ≤ 100000) : Calls Tryz.prog 64 #[.string s] w fun e w' => e = .returned (.tuple #[.string (sealS s), errOf (sumE s)]) ∧ Ext w w' := by
  have C1 := Lib.hid (fun w => sum_any s false w (by omega))
  by_cases h : s.size = 512
  · have hE : sumE s = 0 := by unfold sumE; rw [if_pos h]
    have hO := octE_sum s h
    have hr := sumV_rng s h
    have C2 := Lib.hid (fun w => octal_any (sumV s false) 7 (by omega) w)
    have hv : Hid (sealS s = s.extract 0 148 ++ octS (sumV s false) 7 ++ ⟨#[32]⟩ ++ s.extract 156 s.size) := Lib.hid (by unfold sealS; rw [if_pos h])
    have hE1 : Hid (errOf (sumE s) = .nilIface) := Lib.hid (by rw [hE]; rfl)
    have hE2 : Hid (errOf (octE (sumV s false) 7) = .nilIface) := Lib.hid (by rw [hO]; rfl)
    have hl := octS_le (sumV s false) 7
    have h1 : 148 ≤ s.size := by omega
    have h2 : 156 ≤ s.size := by omega
    have h1' : (148 : Int) ≤ s.size := by omega
    have h2' : (156 : Int) ≤ s.size := by omega
    have h3 : s.size ≤ 512 := by omega
    have z1 : (s.extract 0 148).size ≤ 512 := by rw [ByteArray.size_extract]; omega
    have z2 : (s.extract 156 s.size).size ≤ 512 := by rw [ByteArray.size_extract]; omega
    clear h hE hO hr
    generalize octS (sumV s false) 7 = t at *
    generalize sumV s false = a at *
    go_enter Tryz.func64, Tryz.ntmps64
    go_wp2_with fail
    refine (C1.out _).mono ?_; rintro e w1 ⟨rfl, hx1⟩
    rw [hE1.out]
    go_wp2_with fail
    refine (C2.out _).mono ?_; rintro e w2 ⟨rfl, hx2⟩
    rw [hE2.out]
    go_wp2_with fail
    refine wp_region_det (Stood _) (by kernel_rfl) (by kernel_rfl) (Stood.start _) ?_
    repeat (first
      | (refine det_skip (by rfl) ?_; simp only [Act.put, List.setIfInBounds_toArray, List.set_cons_zero, List.set_cons_succ])
      | (refine det_op (v := ?_) rfl (by rfl) (fun w' hS => ?_) ?_; rotate_left; (focus (obtain ⟨hcl, hxt⟩ := hS; go_wp2_with (fail); (first | refine ⟨?_, rfl, hcl, hxt⟩ | refine ⟨?_, rfl, Stood.of (hxt.trans (by assumption))⟩); (first | (simp only [List.getElem?_toArray, List.getElem?_cons_succ, List.getElem?_cons_zero]; rfl) | rfl))); simp only [Act.put, List.setIfInBounds_toArray, List.set_cons_zero, List.set_cons_succ]))
    refine det_end ?_
    intro w3 hS
    have hx := hS.2
    clear hS
    go_wp2_with fail
    go_ret2
    exact ⟨ret_val (by rw [hE1.out, hv.out]; rfl), (hx1.trans hx2).trans hx⟩
  · have hE : sumE s = 1 := by unfold sumE; rw [if_neg h]
    have hE1 : Hid (errOf (sumE s) = .iface 23 (.int .i64 1)) := Lib.hid (by rw [hE]; rfl)
    have hv : Hid (sealS s = ⟨#[]⟩) := Lib.hid (by unfold sealS; rw [if_neg h])
    clear h hE
    generalize sumV s false = a at *
    go_enter Tryz.func64, Tryz.ntmps64
    go_wp2_with fail
    refine (C1.out _).mono ?_; rintro e w1 ⟨rfl, hx1⟩
    rw [hE1.out]
    go_wp2_with fail
    go_ret2
    exact ⟨ret_val (by rw [hE1.out, hv.out]; rfl), hx1⟩

set_option maxHeartbeats 1600000 in
set_option maxRecDepth 100000 in
theorem refSeal_any (s : ByteArray) (w : World) (hs : s.size ≤ 100000) : Calls Tryz.prog 59 #[.string s] w fun e w' => e = .returned (.tuple #[.string (sealS s), .int .i64 (sumE s)]) ∧ Ext w w' := by
  have C1 := Lib.hid (fun w => refSum_any s false w (by omega))
  by_cases h : s.size = 512
  · have hE : Hid (sumE s = 0) := Lib.hid (by unfold sumE; rw [if_pos h])
    have hr := sumV_rng s h
    have C2 := Lib.hid (fun w => refOctal_any (sumV s false) 7 (by omega) w)
    have hv : Hid (sealS s = s.extract 0 148 ++ octS (sumV s false) 7 ++ ⟨#[32]⟩ ++ s.extract 156 s.size) := Lib.hid (by unfold sealS; rw [if_pos h])
    have hl := octS_le (sumV s false) 7
    have h1 : 148 ≤ s.size := by omega
    have h2 : 156 ≤ s.size := by omega
    have h1' : (148 : Int) ≤ s.size := by omega
    have h2' : (156 : Int) ≤ s.size := by omega
    have h3 : s.size ≤ 512 := by omega
    have z1 : (s.extract 0 148).size ≤ 512 := by rw [ByteArray.size_extract]; omega
    have z2 : (s.extract 156 s.size).size ≤ 512 := by rw [ByteArray.size_extract]; omega
    clear h hr
    generalize octS (sumV s false) 7 = t at *
    generalize octE (sumV s false) 7 = x at *
    generalize sumV s false = a at *
    generalize sumE s = c at *
    go_enter Tryz.func59, Tryz.ntmps59
    go_wp2_with fail
    refine (C1.out _).mono ?_; rintro e w1 ⟨rfl, hx1⟩
    rw [hE.out]
    go_wp2_with fail
    refine (C2.out _).mono ?_; rintro e w2 ⟨rfl, hx2⟩
    go_wp2_with fail
    refine wp_region_det (Stood _) (by kernel_rfl) (by kernel_rfl) (Stood.start _) ?_
    repeat (first
      | (refine det_skip (by rfl) ?_; simp only [Act.put, List.setIfInBounds_toArray, List.set_cons_zero, List.set_cons_succ])
      | (refine det_op (v := ?_) rfl (by rfl) (fun w' hS => ?_) ?_; rotate_left; (focus (obtain ⟨hcl, hxt⟩ := hS; go_wp2_with (fail); (first | refine ⟨?_, rfl, hcl, hxt⟩ | refine ⟨?_, rfl, Stood.of (hxt.trans (by assumption))⟩); (first | (simp only [List.getElem?_toArray, List.getElem?_cons_succ, List.getElem?_cons_zero]; rfl) | rfl))); simp only [Act.put, List.setIfInBounds_toArray, List.set_cons_zero, List.set_cons_succ]))
    refine det_end ?_
    intro w3 hS
    have hx := hS.2
    clear hS
    go_wp2_with fail
    go_ret2
    exact ⟨ret_val (by rw [hE.out, hv.out]; rfl), (hx1.trans hx2).trans hx⟩
  · have hE : Hid (sumE s = 1) := Lib.hid (by unfold sumE; rw [if_neg h])
    have hv : Hid (sealS s = ⟨#[]⟩) := Lib.hid (by unfold sealS; rw [if_neg h])
    clear h
    generalize sumV s false = a at *
    generalize sumE s = c at *
    go_enter Tryz.func59, Tryz.ntmps59
    go_wp2_with fail
    refine (C1.out _).mono ?_; rintro e w1 ⟨rfl, hx1⟩
    rw [hE.out]
    go_wp2_with fail
    go_ret2
    exact ⟨ret_val (by rw [hE.out, hv.out]; rfl), hx1⟩
end Go.Proofs.YtbofobakphlpbaaGreatDoor
