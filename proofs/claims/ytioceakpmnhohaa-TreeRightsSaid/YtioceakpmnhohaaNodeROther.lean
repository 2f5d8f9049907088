/-
  Contract of the reference's NodeRight for the kinds of one class.
-/
import Derived.Test.YtioceakpmnhohaaNodeQ
namespace Go.Proofs.Ytioceakpmnhohaa
open Go.RowKit
variable (kd md ui gi ts tn ma mi : Int) (dt lk : ByteArray) (w : World)

set_option maxHeartbeats 4000000 in
set_option maxRecDepth 100000 in
theorem nodeRight_other (hk0 : 0 ≤ kd) (hk1 : kd ≤ 255) (h1 : rngB kd 48 54 = true) (h48 : (kd == 48) = false) (h49 : (kd == 49) = false) (h50 : (kd == 50) = false) (h51 : (kd == 51) = false) (h52 : (kd == 52) = false) :
    Calls Try.prog 17 #[.agg #[.int .u8 kd, .int .i64 md, .int .i64 ui, .int .i64 gi, .int .i64 ts, .int .i64 tn, .string dt, .string lk, .int .i64 ma, .int .i64 mi]] w fun e w' => e = .returned (.bool (nodeB kd md ui gi ts tn ma mi dt lk)) ∧ Ext w w' := by
  have hk48 : ¬ kd = 48 := by simpa using h48
  have hd : Hid (nodeB kd md ui gi ts tn ma mi dt lk = (rngB md 0 4095 && rngB ui 0 1099511627775 && rngB gi 0 1099511627775 && timeB ts tn && lk.toList.isEmpty && (decide ((lk.size : Int) ≤ 120) && decide (zi lk < 0)) && rngB ma 0 0 && rngB mi 0 0 && decide ((dt.size : Int) ≤ 0))) := Lib.hid (by
    rw [rng_zero ma, rng_zero mi]
    rw [size_zero dt]
    unfold nodeB
    rw [h1, h49, h50, h51, h52, if_neg hk48]
    generalize rngB md 0 4095 = a1; generalize rngB ui 0 1099511627775 = a2; generalize rngB gi 0 1099511627775 = a3; generalize timeB ts tn = a4; generalize lk.toList.isEmpty = a5; generalize decide ((lk.size : Int) ≤ 120) = a6; generalize decide (zi lk < 0) = a7; generalize rngB ma 0 2097151 = a8; generalize rngB mi 0 2097151 = a9; generalize (ma == 0) = b1; generalize (mi == 0) = b2
    cases a1 <;> cases a2 <;> cases a3 <;> cases a4 <;> cases a5 <;> cases a6 <;> cases a7 <;> cases a8 <;> cases a9 <;> cases b1 <;> cases b2 <;> simp)
  have c3 := fun w => within_rng md 0 4095 w
  have c4 := fun w => within_rng ui 0 1099511627775 w
  have c5 := fun w => within_rng gi 0 1099511627775 w
  have c6 := fun w => timeRight_any ts tn w
  have c7 := fun w => plain_any w lk 120
  have c8 := fun w => one_lit false w
  have c9 := fun w => one_lit false w
  have c10 := fun w => within_rngE ma 0 0 w
  have c11 := fun w => within_rngE mi 0 0 w
  have c0 := fun w => within_rng kd 48 54 w
  rw [h1] at c0
  simp at c8 c9
  clear h1 hk48
  generalize rngB md 0 4095 = r3 at *
  generalize rngB ui 0 1099511627775 = r4 at *
  generalize rngB gi 0 1099511627775 = r5 at *
  generalize timeB ts tn = r6 at *
  generalize rngB ma 0 0 = r10 at *
  generalize rngB mi 0 0 = r11 at *
  generalize (decide ((lk.size : Int) ≤ 120) && decide (zi lk < 0)) = p7 at *
  have C0 := Lib.hid c0
  have C3 := Lib.hid c3
  have C4 := Lib.hid c4
  have C5 := Lib.hid c5
  have C6 := Lib.hid c6
  have C7 := Lib.hid c7
  have C8 := Lib.hid c8
  have C9 := Lib.hid c9
  have C10 := Lib.hid c10
  have C11 := Lib.hid c11
  clear c0 c3 c4 c5 c6 c7 c8 c9 c10 c11
  cases r3 with
  | false =>
    go_enter Try.func17, Try.ntmps17
    go_wp2_with (first | ((with_reducible refine (C0.out _).mono ?_); rintro e w1 ⟨rfl, rfl⟩) | ((with_reducible refine (C3.out _).mono ?_); rintro e w1 ⟨rfl, rfl⟩) | ((with_reducible refine (C4.out _).mono ?_); rintro e w1 ⟨rfl, rfl⟩) | ((with_reducible refine (C5.out _).mono ?_); rintro e w1 ⟨rfl, rfl⟩))
    go_ret
    exact ⟨ret_bool (by rw [hd.out]; simp), (by show Below _ _ _; repeat' (first | (with_reducible exact Below.refl _ _) | (with_reducible assumption) | (with_reducible refine belowDrewN ?_ _) | (with_reducible refine Below.alloc ?_ ?_ _) | (with_reducible refine Below.drew ?_) | (with_reducible refine Below.setCell ?_ ?_ _) | go_size))⟩
  | true =>
    cases r4 with
    | false =>
      go_enter Try.func17, Try.ntmps17
      go_wp2_with (first | ((with_reducible refine (C0.out _).mono ?_); rintro e w1 ⟨rfl, rfl⟩) | ((with_reducible refine (C3.out _).mono ?_); rintro e w1 ⟨rfl, rfl⟩) | ((with_reducible refine (C4.out _).mono ?_); rintro e w1 ⟨rfl, rfl⟩) | ((with_reducible refine (C5.out _).mono ?_); rintro e w1 ⟨rfl, rfl⟩))
      go_ret
      exact ⟨ret_bool (by rw [hd.out]; simp), (by show Below _ _ _; repeat' (first | (with_reducible exact Below.refl _ _) | (with_reducible assumption) | (with_reducible refine belowDrewN ?_ _) | (with_reducible refine Below.alloc ?_ ?_ _) | (with_reducible refine Below.drew ?_) | (with_reducible refine Below.setCell ?_ ?_ _) | go_size))⟩
    | true =>
      cases r5 with
      | false =>
        go_enter Try.func17, Try.ntmps17
        go_wp2_with (first | ((with_reducible refine (C0.out _).mono ?_); rintro e w1 ⟨rfl, rfl⟩) | ((with_reducible refine (C3.out _).mono ?_); rintro e w1 ⟨rfl, rfl⟩) | ((with_reducible refine (C4.out _).mono ?_); rintro e w1 ⟨rfl, rfl⟩) | ((with_reducible refine (C5.out _).mono ?_); rintro e w1 ⟨rfl, rfl⟩))
        go_ret
        exact ⟨ret_bool (by rw [hd.out]; simp), (by show Below _ _ _; repeat' (first | (with_reducible exact Below.refl _ _) | (with_reducible assumption) | (with_reducible refine belowDrewN ?_ _) | (with_reducible refine Below.alloc ?_ ?_ _) | (with_reducible refine Below.drew ?_) | (with_reducible refine Below.setCell ?_ ?_ _) | go_size))⟩
      | true =>
        cases r6 with
        | false =>
          go_enter Try.func17, Try.ntmps17
          go_wp2_with (first | ((with_reducible refine (C0.out _).mono ?_); rintro e w1 ⟨rfl, rfl⟩) | ((with_reducible refine (C3.out _).mono ?_); rintro e w1 ⟨rfl, rfl⟩) | ((with_reducible refine (C4.out _).mono ?_); rintro e w1 ⟨rfl, rfl⟩) | ((with_reducible refine (C5.out _).mono ?_); rintro e w1 ⟨rfl, rfl⟩))
          refine (C6.out _).mono ?_; rintro e w1 ⟨rfl, hx1⟩
          obtain ⟨hcl1, hfz1⟩ := bcell3 hx1
          have hz1 : w.heap.size < w1.heap.size := by have := hx1.size; simp only [World.size_alloc] at this; omega
          have hb1 : Below w.heap.size w w1 := Ext.trans ((Ext.refl w).alloc _) hx1
          go_wp2_with fail
          go_ret
          exact ⟨ret_bool (by rw [hd.out]; simp), hb1⟩
        | true =>
          cases he : lk.toList.isEmpty with
          | false =>
            go_enter Try.func17, Try.ntmps17
            go_wp2_with (first | ((with_reducible refine (C0.out _).mono ?_); rintro e w1 ⟨rfl, rfl⟩) | ((with_reducible refine (C3.out _).mono ?_); rintro e w1 ⟨rfl, rfl⟩) | ((with_reducible refine (C4.out _).mono ?_); rintro e w1 ⟨rfl, rfl⟩) | ((with_reducible refine (C5.out _).mono ?_); rintro e w1 ⟨rfl, rfl⟩))
            refine (C6.out _).mono ?_; rintro e w1 ⟨rfl, hx1⟩
            obtain ⟨hcl1, hfz1⟩ := bcell3 hx1
            have hz1 : w.heap.size < w1.heap.size := by have := hx1.size; simp only [World.size_alloc] at this; omega
            have hb1 : Below w.heap.size w w1 := Ext.trans ((Ext.refl w).alloc _) hx1
            go_wp2_with fail
            refine wp_region_det (Stood _) (by kernel_rfl) (by kernel_rfl) (Stood.start _) ?_
            repeat (first
              | (refine det_skip (by rfl) ?_; simp only [Act.put, List.setIfInBounds_toArray, List.set_cons_zero, List.set_cons_succ])
              | (refine det_op (v := ?_) rfl (by rfl) (fun w' hS => ?_) ?_; rotate_left; (focus (obtain ⟨hcl, hxt⟩ := hS; go_wp2_with (first | ((with_reducible refine (C7.out _).mono ?_); rintro e w1 ⟨rfl, hx1⟩) | ((with_reducible refine (C8.out _).mono ?_); rintro e w1 ⟨rfl, hx1⟩) | ((with_reducible refine (C10.out _).mono ?_); rintro e w1 ⟨rfl, hx1⟩) | ((with_reducible refine (C11.out _).mono ?_); rintro e w1 ⟨rfl, hx1⟩)); (first | refine ⟨?_, rfl, hcl, hxt⟩ | refine ⟨?_, rfl, Stood.of (hxt.trans (by assumption))⟩); (first | (simp only [List.getElem?_toArray, List.getElem?_cons_succ, List.getElem?_cons_zero]; rfl) | rfl))); simp only [Act.put, List.setIfInBounds_toArray, List.set_cons_zero, List.set_cons_succ]))
            refine det_end ?_
            intro w2 hS
            have hx2 := hS.2
            clear hS
            go_wp2_with fail
            go_ret
            exact ⟨ret_bool (by rw [hd.out]; simp [he]), Ext.trans hb1 hx2⟩
          | true =>
            cases p7 with
            | false =>
              go_enter Try.func17, Try.ntmps17
              go_wp2_with (first | ((with_reducible refine (C0.out _).mono ?_); rintro e w1 ⟨rfl, rfl⟩) | ((with_reducible refine (C3.out _).mono ?_); rintro e w1 ⟨rfl, rfl⟩) | ((with_reducible refine (C4.out _).mono ?_); rintro e w1 ⟨rfl, rfl⟩) | ((with_reducible refine (C5.out _).mono ?_); rintro e w1 ⟨rfl, rfl⟩))
              refine (C6.out _).mono ?_; rintro e w1 ⟨rfl, hx1⟩
              obtain ⟨hcl1, hfz1⟩ := bcell3 hx1
              have hz1 : w.heap.size < w1.heap.size := by have := hx1.size; simp only [World.size_alloc] at this; omega
              have hb1 : Below w.heap.size w w1 := Ext.trans ((Ext.refl w).alloc _) hx1
              go_wp2_with fail
              refine wp_region_det (Stood _) (by kernel_rfl) (by kernel_rfl) (Stood.start _) ?_
              repeat (first
                | (refine det_skip (by rfl) ?_; simp only [Act.put, List.setIfInBounds_toArray, List.set_cons_zero, List.set_cons_succ])
                | (refine det_op (v := ?_) rfl (by rfl) (fun w' hS => ?_) ?_; rotate_left; (focus (obtain ⟨hcl, hxt⟩ := hS; go_wp2_with (first | ((with_reducible refine (C7.out _).mono ?_); rintro e w1 ⟨rfl, hx1⟩) | ((with_reducible refine (C8.out _).mono ?_); rintro e w1 ⟨rfl, hx1⟩) | ((with_reducible refine (C10.out _).mono ?_); rintro e w1 ⟨rfl, hx1⟩) | ((with_reducible refine (C11.out _).mono ?_); rintro e w1 ⟨rfl, hx1⟩)); (first | refine ⟨?_, rfl, hcl, hxt⟩ | refine ⟨?_, rfl, Stood.of (hxt.trans (by assumption))⟩); (first | (simp only [List.getElem?_toArray, List.getElem?_cons_succ, List.getElem?_cons_zero]; rfl) | rfl))); simp only [Act.put, List.setIfInBounds_toArray, List.set_cons_zero, List.set_cons_succ]))
              refine det_end ?_
              intro w2 hS
              have hx2 := hS.2
              clear hS
              go_wp2_with fail
              go_ret
              exact ⟨ret_bool (by rw [hd.out]; simp), Ext.trans hb1 hx2⟩
            | true =>
              cases r10 with
              | false =>
                go_enter Try.func17, Try.ntmps17
                go_wp2_with (first | ((with_reducible refine (C0.out _).mono ?_); rintro e w1 ⟨rfl, rfl⟩) | ((with_reducible refine (C3.out _).mono ?_); rintro e w1 ⟨rfl, rfl⟩) | ((with_reducible refine (C4.out _).mono ?_); rintro e w1 ⟨rfl, rfl⟩) | ((with_reducible refine (C5.out _).mono ?_); rintro e w1 ⟨rfl, rfl⟩))
                refine (C6.out _).mono ?_; rintro e w1 ⟨rfl, hx1⟩
                obtain ⟨hcl1, hfz1⟩ := bcell3 hx1
                have hz1 : w.heap.size < w1.heap.size := by have := hx1.size; simp only [World.size_alloc] at this; omega
                have hb1 : Below w.heap.size w w1 := Ext.trans ((Ext.refl w).alloc _) hx1
                go_wp2_with fail
                refine wp_region_det (Stood _) (by kernel_rfl) (by kernel_rfl) (Stood.start _) ?_
                repeat (first
                  | (refine det_skip (by rfl) ?_; simp only [Act.put, List.setIfInBounds_toArray, List.set_cons_zero, List.set_cons_succ])
                  | (refine det_op (v := ?_) rfl (by rfl) (fun w' hS => ?_) ?_; rotate_left; (focus (obtain ⟨hcl, hxt⟩ := hS; go_wp2_with (first | ((with_reducible refine (C7.out _).mono ?_); rintro e w1 ⟨rfl, hx1⟩) | ((with_reducible refine (C8.out _).mono ?_); rintro e w1 ⟨rfl, hx1⟩) | ((with_reducible refine (C10.out _).mono ?_); rintro e w1 ⟨rfl, hx1⟩) | ((with_reducible refine (C11.out _).mono ?_); rintro e w1 ⟨rfl, hx1⟩)); (first | refine ⟨?_, rfl, hcl, hxt⟩ | refine ⟨?_, rfl, Stood.of (hxt.trans (by assumption))⟩); (first | (simp only [List.getElem?_toArray, List.getElem?_cons_succ, List.getElem?_cons_zero]; rfl) | rfl))); simp only [Act.put, List.setIfInBounds_toArray, List.set_cons_zero, List.set_cons_succ]))
                refine det_end ?_
                intro w2 hS
                have hx2 := hS.2
                clear hS
                go_wp2_with fail
                go_ret
                exact ⟨ret_bool (by rw [hd.out]; simp), Ext.trans hb1 hx2⟩
              | true =>
                cases r11 with
                | false =>
                  go_enter Try.func17, Try.ntmps17
                  go_wp2_with (first | ((with_reducible refine (C0.out _).mono ?_); rintro e w1 ⟨rfl, rfl⟩) | ((with_reducible refine (C3.out _).mono ?_); rintro e w1 ⟨rfl, rfl⟩) | ((with_reducible refine (C4.out _).mono ?_); rintro e w1 ⟨rfl, rfl⟩) | ((with_reducible refine (C5.out _).mono ?_); rintro e w1 ⟨rfl, rfl⟩))
                  refine (C6.out _).mono ?_; rintro e w1 ⟨rfl, hx1⟩
                  obtain ⟨hcl1, hfz1⟩ := bcell3 hx1
                  have hz1 : w.heap.size < w1.heap.size := by have := hx1.size; simp only [World.size_alloc] at this; omega
                  have hb1 : Below w.heap.size w w1 := Ext.trans ((Ext.refl w).alloc _) hx1
                  go_wp2_with fail
                  refine wp_region_det (Stood _) (by kernel_rfl) (by kernel_rfl) (Stood.start _) ?_
                  repeat (first
                    | (refine det_skip (by rfl) ?_; simp only [Act.put, List.setIfInBounds_toArray, List.set_cons_zero, List.set_cons_succ])
                    | (refine det_op (v := ?_) rfl (by rfl) (fun w' hS => ?_) ?_; rotate_left; (focus (obtain ⟨hcl, hxt⟩ := hS; go_wp2_with (first | ((with_reducible refine (C7.out _).mono ?_); rintro e w1 ⟨rfl, hx1⟩) | ((with_reducible refine (C8.out _).mono ?_); rintro e w1 ⟨rfl, hx1⟩) | ((with_reducible refine (C10.out _).mono ?_); rintro e w1 ⟨rfl, hx1⟩) | ((with_reducible refine (C11.out _).mono ?_); rintro e w1 ⟨rfl, hx1⟩)); (first | refine ⟨?_, rfl, hcl, hxt⟩ | refine ⟨?_, rfl, Stood.of (hxt.trans (by assumption))⟩); (first | (simp only [List.getElem?_toArray, List.getElem?_cons_succ, List.getElem?_cons_zero]; rfl) | rfl))); simp only [Act.put, List.setIfInBounds_toArray, List.set_cons_zero, List.set_cons_succ]))
                  refine det_end ?_
                  intro w2 hS
                  have hx2 := hS.2
                  clear hS
                  go_wp2_with fail
                  go_ret
                  exact ⟨ret_bool (by rw [hd.out]; simp), Ext.trans hb1 hx2⟩
                | true =>
                  go_enter Try.func17, Try.ntmps17
                  go_wp2_with (first | ((with_reducible refine (C0.out _).mono ?_); rintro e w1 ⟨rfl, rfl⟩) | ((with_reducible refine (C3.out _).mono ?_); rintro e w1 ⟨rfl, rfl⟩) | ((with_reducible refine (C4.out _).mono ?_); rintro e w1 ⟨rfl, rfl⟩) | ((with_reducible refine (C5.out _).mono ?_); rintro e w1 ⟨rfl, rfl⟩))
                  refine (C6.out _).mono ?_; rintro e w1 ⟨rfl, hx1⟩
                  obtain ⟨hcl1, hfz1⟩ := bcell3 hx1
                  have hz1 : w.heap.size < w1.heap.size := by have := hx1.size; simp only [World.size_alloc] at this; omega
                  have hb1 : Below w.heap.size w w1 := Ext.trans ((Ext.refl w).alloc _) hx1
                  go_wp2_with fail
                  refine wp_region_det (Stood _) (by kernel_rfl) (by kernel_rfl) (Stood.start _) ?_
                  repeat (first
                    | (refine det_skip (by rfl) ?_; simp only [Act.put, List.setIfInBounds_toArray, List.set_cons_zero, List.set_cons_succ])
                    | (refine det_op (v := ?_) rfl (by rfl) (fun w' hS => ?_) ?_; rotate_left; (focus (obtain ⟨hcl, hxt⟩ := hS; go_wp2_with (first | ((with_reducible refine (C7.out _).mono ?_); rintro e w1 ⟨rfl, hx1⟩) | ((with_reducible refine (C8.out _).mono ?_); rintro e w1 ⟨rfl, hx1⟩) | ((with_reducible refine (C10.out _).mono ?_); rintro e w1 ⟨rfl, hx1⟩) | ((with_reducible refine (C11.out _).mono ?_); rintro e w1 ⟨rfl, hx1⟩)); (first | refine ⟨?_, rfl, hcl, hxt⟩ | refine ⟨?_, rfl, Stood.of (hxt.trans (by assumption))⟩); (first | (simp only [List.getElem?_toArray, List.getElem?_cons_succ, List.getElem?_cons_zero]; rfl) | rfl))); simp only [Act.put, List.setIfInBounds_toArray, List.set_cons_zero, List.set_cons_succ]))
                  refine det_end ?_
                  intro w2 hS
                  have hx2 := hS.2
                  clear hS
                  obtain ⟨hcl2, hfz2⟩ := bcell3 hx2
                  have hz2 : w.heap.size < w2.heap.size := by have := hx2.size; omega
                  go_wp2_with fail
                  refine wp_region_det (Stood _) (by kernel_rfl) (by kernel_rfl) (Stood.start _) ?_
                  repeat (first
                    | (refine det_skip (by rfl) ?_; simp only [Act.put, List.setIfInBounds_toArray, List.set_cons_zero, List.set_cons_succ])
                    | (refine det_op (v := ?_) rfl (by rfl) (fun w' hS => ?_) ?_; rotate_left; (focus (obtain ⟨hcl, hxt⟩ := hS; go_wp2_with (first | ((with_reducible refine (C9.out _).mono ?_); rintro e w1 ⟨rfl, hx1⟩)); (first | refine ⟨?_, rfl, hcl, hxt⟩ | refine ⟨?_, rfl, Stood.of (hxt.trans (by assumption))⟩); (first | (simp only [List.getElem?_toArray, List.getElem?_cons_succ, List.getElem?_cons_zero]; rfl) | rfl))); simp only [Act.put, List.setIfInBounds_toArray, List.set_cons_zero, List.set_cons_succ]))
                  refine det_end ?_
                  intro w3 hS
                  have hx3 := hS.2
                  clear hS
                  go_wp2_with fail
                  go_ret
                  exact ⟨ret_bool (by rw [hd.out]; simp [he]), Ext.trans (Ext.trans hb1 hx2) hx3⟩

end Go.Proofs.Ytioceakpmnhohaa
