/-
  Whether a header's sum is right: block.Right and the reference's HeadRight.
-/
import Derived.Test.YtiiaoagobjgkiaaGreatDoorSum
import Derived.Test.YtiiaoagobjgkiaaGreatDoorReadN
namespace Go.Proofs.YtiiaoagobjgkiaaGreatDoor
open Go.RowKit Go.PlainAid

/-- The field of a header's sum. -/
def sumF (s : ByteArray) : ByteArray := s.extract 148 156
def headB (s : ByteArray) : Bool := decide (s.size = 512) && (numErr (sumF s) == 0) && ((numVal (sumF s) == sumV s false) || (numVal (sumF s) == sumV s true))

set_option maxHeartbeats 1600000 in
set_option maxRecDepth 100000 in
theorem blockRight_any (s : ByteArray) (w : World) (_hs : s.size ≤ 100000) : Calls Tryz.prog 113 #[.string s] w fun e w' => e = .returned (.bool (headB s)) ∧ Ext w w' := by
  have hd : Hid (headB s = (decide (s.size = 512) && (numErr (sumF s) == 0) && ((numVal (sumF s) == sumV s false) || (numVal (sumF s) == sumV s true)))) := Lib.hid rfl
  by_cases h : s.size = 512
  · have hq : ((s.size : Int) != 512) = false := by simp; omega
    have H := Lib.hid h
    have h1 : 156 ≤ s.size := by omega
    have h1' : (156 : Int) ≤ s.size := by omega
    have hfs : (sumF s).size ≤ 100000 := by unfold sumF; rw [ByteArray.size_extract]; omega
    have C1 := Lib.hid (fun w => numRead_any (sumF s) w hfs)
    have C2 := Lib.hid (fun w => sum_any s false w (by omega))
    have C3 := Lib.hid (fun w => sum_any s true w (by omega))
    have hF : Hid (s.extract 148 156 = sumF s) := Lib.hid rfl
    have i0 : ∀ w, (Instr.index 225 (.agg #[.bool false, .bool true]) (.int .i64 0)).run Tryz.prog w = .ok (.bool false) w := fun _ => by kernel_rfl
    have i1 : ∀ w, (Instr.index 225 (.agg #[.bool false, .bool true]) (.int .i64 1)).run Tryz.prog w = .ok (.bool true) w := fun _ => by kernel_rfl
    clear h
    generalize sumF s = f at *
    generalize sumV s false = a at *
    generalize sumV s true = b at *
    generalize sumE s = c at *
    generalize numVal f = v at *
    by_cases he : numErr f = 0
    · have He := Lib.hid he
      have hC : Hid (errOf (numErr f) = .nilIface) := Lib.hid (by rw [he]; rfl)
      clear he
      rcases (show (v = a ∧ (a == v) = true) ∨ ((a == v) = false ∧ (b == v) = true) ∨ ((a == v) = false ∧ (b == v) = false) by
        cases e1 : a == v with
        | true => left; exact ⟨(by simpa using e1 : a = v).symm, rfl⟩
        | false => cases e2 : b == v with
          | true => right; left; exact ⟨rfl, rfl⟩
          | false => right; right; exact ⟨rfl, rfl⟩) with ⟨e0, e1⟩ | ⟨e1, e2⟩ | ⟨e1, e2⟩
      · have E0 := Lib.hid e0
        clear e0
        go_enter Tryz.func113, Tryz.ntmps113
        go_wp2_with fail
        rw [hF.out]
        refine (C1.out _).mono ?_; rintro e w1 ⟨rfl, hx1⟩
        rw [hC.out]
        go_wp2_with fail
        refine wp_loop_rounds 3 ?_
        rw [rounds_succ]
        go_wp2_with fail
        refine (C2.out _).mono ?_; rintro e w2 ⟨rfl, hx2⟩
        go_wp2_with fail
        go_ret
        exact ⟨ret_bool (by rw [hd.out, H.out, He.out, E0.out]; simp), hx1.trans hx2⟩
      · go_enter Tryz.func113, Tryz.ntmps113
        go_wp2_with fail
        rw [hF.out]
        refine (C1.out _).mono ?_; rintro e w1 ⟨rfl, hx1⟩
        rw [hC.out]
        go_wp2_with fail
        refine wp_loop_rounds 3 ?_
        rw [rounds_succ]
        go_wp2_with fail
        refine (C2.out _).mono ?_; rintro e w2 ⟨rfl, hx2⟩
        go_wp2_with fail
        rw [rounds_succ]
        go_wp2_with fail
        refine (C3.out _).mono ?_; rintro e w3 ⟨rfl, hx3⟩
        go_wp2_with fail
        go_ret
        exact ⟨ret_bool (by rw [hd.out, H.out, He.out]; simp at e2 ⊢; exact .inr e2.symm), (hx1.trans hx2).trans hx3⟩
      · go_enter Tryz.func113, Tryz.ntmps113
        go_wp2_with fail
        rw [hF.out]
        refine (C1.out _).mono ?_; rintro e w1 ⟨rfl, hx1⟩
        rw [hC.out]
        go_wp2_with fail
        refine wp_loop_rounds 3 ?_
        rw [rounds_succ]
        go_wp2_with fail
        refine (C2.out _).mono ?_; rintro e w2 ⟨rfl, hx2⟩
        go_wp2_with fail
        rw [rounds_succ]
        go_wp2_with fail
        refine (C3.out _).mono ?_; rintro e w3 ⟨rfl, hx3⟩
        go_wp2_with fail
        rw [rounds_succ]
        go_wp2_with fail
        go_ret
        exact ⟨ret_bool (by rw [hd.out, H.out, He.out]; simp at e1 e2 ⊢; exact ⟨fun h => e1 h.symm, fun h => e2 h.symm⟩), (hx1.trans hx2).trans hx3⟩
    · have He := Lib.hid he
      have hC : Hid (errOf (numErr f) = .iface 23 (.int .i64 (numErr f))) := Lib.hid (by unfold errOf; rw [if_neg he])
      clear he
      go_enter Tryz.func113, Tryz.ntmps113
      go_wp2_with fail
      rw [hF.out]
      refine (C1.out _).mono ?_; rintro e w1 ⟨rfl, hx1⟩
      rw [hC.out]
      go_wp2_with fail
      go_ret
      exact ⟨ret_bool (by rw [hd.out]; simp [He.out]), hx1⟩
  · have hq : ((s.size : Int) != 512) = true := by simp; omega
    have H := Lib.hid h
    clear h
    go_enter Tryz.func113, Tryz.ntmps113
    go_wp2_with fail
    go_ret
    exact ⟨ret_bool (by rw [hd.out]; simp [H.out]), (by show Below _ _ _; repeat' (first | (with_reducible exact Below.refl _ _) | (with_reducible assumption) | (with_reducible refine belowDrewN ?_ _) | (with_reducible refine Below.alloc ?_ ?_ _) | (with_reducible refine Below.drew ?_) | (with_reducible refine Below.setCell ?_ ?_ _) | go_size))⟩

set_option maxHeartbeats 1600000 in
set_option maxRecDepth 100000 in
theorem headRight_any (s : ByteArray) (w : World) (hs : s.size ≤ 100000) : Calls Tryz.prog 70 #[.string s] w fun e w' => e = .returned (.bool (headB s)) ∧ Ext w w' := by
  have hd : Hid (headB s = (decide (s.size = 512) && (numErr (sumF s) == 0) && ((numVal (sumF s) == sumV s false) || (numVal (sumF s) == sumV s true)))) := Lib.hid rfl
  have C2 := Lib.hid (fun w => refSum_any s false w (by omega))
  have C3 := Lib.hid (fun w => refSum_any s true w (by omega))
  by_cases h : s.size = 512
  · have H := Lib.hid h
    have hE : Hid (sumE s = 0) := Lib.hid (by unfold sumE; rw [if_pos h])
    have h1 : 156 ≤ s.size := by omega
    have h1' : (156 : Int) ≤ s.size := by omega
    have hfs : (sumF s).size ≤ 100000 := by unfold sumF; rw [ByteArray.size_extract]; omega
    have C1 := Lib.hid (fun w => refRead_any (sumF s) w hfs)
    have hF : Hid (s.extract 148 156 = sumF s) := Lib.hid rfl
    clear h
    generalize sumF s = f at *
    generalize sumV s false = a at *
    generalize sumV s true = b at *
    generalize sumE s = c at *
    generalize numVal f = v at *
    generalize numErr f = x at *
    rcases (show ((x == 0) = false) ∨ ((x == 0) = true ∧ (v == a) = true) ∨ ((x == 0) = true ∧ (v == a) = false) by cases x == 0 <;> cases v == a <;> simp) with e0 | ⟨e0, e1⟩ | ⟨e0, e1⟩
    all_goals
      go_enter Tryz.func70, Tryz.ntmps70
      go_wp2_with fail
      refine (C2.out _).mono ?_; rintro e w1 ⟨rfl, hx1⟩
      rw [hE.out]
      go_wp2_with fail
      refine (C3.out _).mono ?_; rintro e w2 ⟨rfl, hx2⟩
      rw [hE.out]
      go_wp2_with fail
      rw [hF.out]
      refine (C1.out _).mono ?_; rintro e w3 ⟨rfl, hx3⟩
      go_wp2_with fail
      go_ret
      exact ⟨ret_bool (by rw [hd.out, H.out]; simp [*]), (hx1.trans hx2).trans hx3⟩
  · have hE : Hid (sumE s = 1) := Lib.hid (by unfold sumE; rw [if_neg h])
    have H := Lib.hid h
    clear h
    generalize sumV s false = a at *
    generalize sumE s = c at *
    go_enter Tryz.func70, Tryz.ntmps70
    go_wp2_with fail
    refine (C2.out _).mono ?_; rintro e w1 ⟨rfl, hx1⟩
    rw [hE.out]
    go_wp2_with fail
    go_ret
    exact ⟨ret_bool (by rw [hd.out]; simp [H.out]), hx1⟩
end Go.Proofs.YtiiaoagobjgkiaaGreatDoor
