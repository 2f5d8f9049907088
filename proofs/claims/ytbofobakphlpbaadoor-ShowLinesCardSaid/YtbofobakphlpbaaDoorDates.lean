/-
  Contract of stamp.Date.
-/
import Derived.Test.YtbofobakphlpbaaDoorCivilW
namespace Go.Proofs.YtbofobakphlpbaaDoor
open Go.RowKit

theorem bcell2 {W w1 : World} (h : Ext W w1) : (∀ b o, b < W.heap.size → w1.cell? ⟨b, o, none⟩ = W.cell? ⟨b, o, none⟩) ∧ (∀ b o, b < W.heap.size → w1.frozen? ⟨b, o, none⟩ = W.frozen? ⟨b, o, none⟩) :=
  ⟨fun b o hb => h.cells b o hb, fun b o hb => h.frozens b o hb⟩

set_option maxHeartbeats 1600000 in
set_option maxRecDepth 100000 in
theorem date_any (a b : Int) (h0 : -1099511627776 ≤ a) (h1 : a ≤ 1099511627776) (w : World) : Calls Tryd.prog 33 #[.agg #[.int .i64 a, .int .i64 b]] w fun e w' => e = .returned (dateVal a) ∧ Ext w w' := by
  have d0 : -20000000 ≤ dayOf a ∧ dayOf a ≤ 20000000 := by unfold dayOf; omega
  have s0 : 0 ≤ secOf a ∧ secOf a < 86400 := by unfold secOf; omega
  obtain ⟨d0, d1⟩ := d0
  obtain ⟨s0, s1⟩ := s0
  have C1 := Lib.hid (fun w => civil_any (dayOf a) d0 d1 w)
  have hv : Hid (dateVal a = .agg #[.int .i64 (Cal.dateY (dayOf a)), .int .i64 (Cal.dateM (dayOf a)), .int .i64 (Cal.dateD (dayOf a)), .int .i64 (secOf a / 3600), .int .i64 (secOf a / 60 % 60), .int .i64 (secOf a % 60)]) := Lib.hid rfl
  have hd : Hid (dayOf a = a / 86400) := Lib.hid rfl
  have hs : Hid (secOf a = a % 86400) := Lib.hid rfl
  generalize Cal.dateY (dayOf a) = Y at *
  generalize Cal.dateM (dayOf a) = M at *
  generalize Cal.dateD (dayOf a) = D at *
  generalize dayOf a = d at *
  generalize secOf a = s at *
  rcases (show 0 ≤ a ∨ (a < 0 ∧ a.tmod 86400 < 0 ∧ a.tdiv 86400 = d + 1 ∧ a.tmod 86400 = s - 86400) ∨ (a < 0 ∧ 0 ≤ a.tmod 86400 ∧ a.tdiv 86400 = d ∧ a.tmod 86400 = s) by
    have h1 := hd.out
    have h2 := hs.out
    have h3 := Int.tdiv_eq_ediv (a := a) (b := 86400)
    have h4 := Int.tmod_eq_emod (a := a) (b := 86400)
    split at h3 <;> split at h4 <;> simp [show Int.sign 86400 = 1 from rfl] at h3 h4 <;> omega) with ha | ⟨ha, t1, t2, t3⟩ | ⟨ha, t1, t2, t3⟩
  · have t2 : a / 86400 = d := hd.out.symm
    have t3 : a % 86400 = s := hs.out.symm
    go_enter Tryd.func33, Tryd.ntmps33
    go_wp2_with fail
    refine wp_region_det (Stood _) (by kernel_rfl) (by kernel_rfl) (Stood.start _) ?_
    repeat (first
      | (refine det_skip (by rfl) ?_; simp only [Act.put, List.setIfInBounds_toArray, List.set_cons_zero, List.set_cons_succ])
      | (refine det_op (v := ?_) rfl (by rfl) (fun w' hS => ?_) ?_; rotate_left; (focus (obtain ⟨hcl, hxt⟩ := hS; go_wp2_with (fail); (first | refine ⟨?_, rfl, hcl, hxt⟩ | refine ⟨?_, rfl, Stood.of (hxt.trans (by assumption))⟩); (first | (simp only [List.getElem?_toArray, List.getElem?_cons_succ, List.getElem?_cons_zero]; rfl) | rfl))); simp only [Act.put, List.setIfInBounds_toArray, List.set_cons_zero, List.set_cons_succ]))
    refine det_end ?_
    intro w1 hS
    have hx1 := hS.2
    clear hS
    obtain ⟨hcl1, hfz1⟩ := bcell2 hx1
    have hz1 : w.heap.size + 1 < w1.heap.size := by have := hx1.size; simp only [World.size_alloc] at this; omega
    go_wp2_with fail
    refine (C1.out _).mono ?_; rintro e w2 ⟨rfl, hw2⟩; rw [hw2]; clear hw2 w2
    go_wp2_with fail
    have hb1 : Below w.heap.size w w1 := Ext.trans (((Ext.refl w).alloc _).alloc _) hx1
    exact bodyPost_ret (v := .agg #[.int .i64 Y, .int .i64 M, .int .i64 D, .int .i64 (s / 3600), .int .i64 (s / 60 % 60), .int .i64 (s % 60)]) (by simp [results, Tryd.results33, go_sem, hcl1]) rfl ⟨ret_val (by rw [hv.out]), (by show Below _ _ _; repeat' (first | (with_reducible exact Below.refl _ _) | (with_reducible assumption) | (with_reducible refine belowDrewN ?_ _) | (with_reducible refine Below.alloc ?_ ?_ _) | (with_reducible refine Below.drew ?_) | (with_reducible refine Below.setCell ?_ ?_ _) | go_size))⟩
  · go_enter Tryd.func33, Tryd.ntmps33
    go_wp2_with fail
    refine wp_region_det (Stood _) (by kernel_rfl) (by kernel_rfl) (Stood.start _) ?_
    repeat (first
      | (refine det_skip (by rfl) ?_; simp only [Act.put, List.setIfInBounds_toArray, List.set_cons_zero, List.set_cons_succ])
      | (refine det_op (v := ?_) rfl (by rfl) (fun w' hS => ?_) ?_; rotate_left; (focus (obtain ⟨hcl, hxt⟩ := hS; go_wp2_with (fail); (first | refine ⟨?_, rfl, hcl, hxt⟩ | refine ⟨?_, rfl, Stood.of (hxt.trans (by assumption))⟩); (first | (simp only [List.getElem?_toArray, List.getElem?_cons_succ, List.getElem?_cons_zero]; rfl) | rfl))); simp only [Act.put, List.setIfInBounds_toArray, List.set_cons_zero, List.set_cons_succ]))
    refine det_end ?_
    intro w1 hS
    have hx1 := hS.2
    clear hS
    obtain ⟨hcl1, hfz1⟩ := bcell2 hx1
    have hz1 : w.heap.size + 1 < w1.heap.size := by have := hx1.size; simp only [World.size_alloc] at this; omega
    go_wp2_with fail
    refine (C1.out _).mono ?_; rintro e w2 ⟨rfl, hw2⟩; rw [hw2]; clear hw2 w2
    go_wp2_with fail
    have hb1 : Below w.heap.size w w1 := Ext.trans (((Ext.refl w).alloc _).alloc _) hx1
    exact bodyPost_ret (v := .agg #[.int .i64 Y, .int .i64 M, .int .i64 D, .int .i64 (s / 3600), .int .i64 (s / 60 % 60), .int .i64 (s % 60)]) (by simp [results, Tryd.results33, go_sem, hcl1]) rfl ⟨ret_val (by rw [hv.out]), (by show Below _ _ _; repeat' (first | (with_reducible exact Below.refl _ _) | (with_reducible assumption) | (with_reducible refine belowDrewN ?_ _) | (with_reducible refine Below.alloc ?_ ?_ _) | (with_reducible refine Below.drew ?_) | (with_reducible refine Below.setCell ?_ ?_ _) | go_size))⟩
  · go_enter Tryd.func33, Tryd.ntmps33
    go_wp2_with fail
    refine wp_region_det (Stood _) (by kernel_rfl) (by kernel_rfl) (Stood.start _) ?_
    repeat (first
      | (refine det_skip (by rfl) ?_; simp only [Act.put, List.setIfInBounds_toArray, List.set_cons_zero, List.set_cons_succ])
      | (refine det_op (v := ?_) rfl (by rfl) (fun w' hS => ?_) ?_; rotate_left; (focus (obtain ⟨hcl, hxt⟩ := hS; go_wp2_with (fail); (first | refine ⟨?_, rfl, hcl, hxt⟩ | refine ⟨?_, rfl, Stood.of (hxt.trans (by assumption))⟩); (first | (simp only [List.getElem?_toArray, List.getElem?_cons_succ, List.getElem?_cons_zero]; rfl) | rfl))); simp only [Act.put, List.setIfInBounds_toArray, List.set_cons_zero, List.set_cons_succ]))
    refine det_end ?_
    intro w1 hS
    have hx1 := hS.2
    clear hS
    obtain ⟨hcl1, hfz1⟩ := bcell2 hx1
    have hz1 : w.heap.size + 1 < w1.heap.size := by have := hx1.size; simp only [World.size_alloc] at this; omega
    go_wp2_with fail
    refine (C1.out _).mono ?_; rintro e w2 ⟨rfl, hw2⟩; rw [hw2]; clear hw2 w2
    go_wp2_with fail
    have hb1 : Below w.heap.size w w1 := Ext.trans (((Ext.refl w).alloc _).alloc _) hx1
    exact bodyPost_ret (v := .agg #[.int .i64 Y, .int .i64 M, .int .i64 D, .int .i64 (s / 3600), .int .i64 (s / 60 % 60), .int .i64 (s % 60)]) (by simp [results, Tryd.results33, go_sem, hcl1]) rfl ⟨ret_val (by rw [hv.out]), (by show Below _ _ _; repeat' (first | (with_reducible exact Below.refl _ _) | (with_reducible assumption) | (with_reducible refine belowDrewN ?_ _) | (with_reducible refine Below.alloc ?_ ?_ _) | (with_reducible refine Below.drew ?_) | (with_reducible refine Below.setCell ?_ ?_ _) | go_size))⟩
end Go.Proofs.YtbofobakphlpbaaDoor
