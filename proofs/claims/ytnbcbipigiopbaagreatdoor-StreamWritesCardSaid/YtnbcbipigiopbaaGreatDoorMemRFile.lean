/-
  The reference's EntryRight for the kinds of one class: one walk, parted at each test.
-/
import Derived.Test.YtnbcbipigiopbaaGreatDoorMemQ
namespace Go.Proofs.YtnbcbipigiopbaaGreatDoor
open Go.RowKit Go.WideShapes Go.PlainAid

set_option maxHeartbeats 16000000 in
set_option maxRecDepth 100000 in
theorem entRight_file (e : Ent) (ok : e.Ok) (A S : Nat → Int) (w : World) (hp : IsPieces w (.slice e.pa e.pn e.pc) e.pn A S) (h48 : (e.kd == 48) = true) (h49 : (e.kd == 49) = false) (h50 : (e.kd == 50) = false) (h51 : (e.kd == 51) = false) (h52 : (e.kd == 52) = false) :
    Calls Tryz.prog 34 #[.agg #[.string e.nm, .int .u8 e.kd, .int .i64 e.md, .int .i64 e.ui, .int .i64 e.gi, .int .i64 e.sz, .int .i64 e.ts, .int .i64 e.tn, .string e.lk, .string e.us, .string e.gr, .int .i64 e.ma, .int .i64 e.mi, .string e.dt, .slice e.pa e.pn e.pc]] w fun x w' => x = .returned (.bool (memB e.kd e.md e.ui e.gi e.sz e.ts e.tn e.ma e.mi e.nm e.lk e.us e.gr e.dt e.pn A S)) ∧ Ext w w' := by
  have h1 := ok.nm
  have h2 := ok.lk
  have h3 := ok.us
  have h4 := ok.gr
  have h5 := ok.dt
  have h6 := ok.pn
  have k0 := ok.kd0
  have k1 := ok.kd1
  have hk48 : e.kd = 48 := by simpa using h48
  have n48 : (e.kd != 48) = false := by simp [hk48]
  have hd : Hid (memB e.kd e.md e.ui e.gi e.sz e.ts e.tn e.ma e.mi e.nm e.lk e.us e.gr e.dt e.pn A S = (rngB e.kd 48 54 && !e.nm.toList.isEmpty && !sufB e.nm && txB e.nm 120 && txB e.lk 120 && txB e.us 32 && txB e.gr 32 && rngB e.md 0 4095 && rngB e.ui 0 1099511627775 && rngB e.gi 0 1099511627775 && timeB e.ts e.tn && e.lk.toList.isEmpty && rngB e.ma 0 0 && rngB e.mi 0 0 && (rngB e.sz 0 4000 && (!spB e.sz e.dt e.pn || (holeB e.pn A S e.sz && (sumW S e.pn == (e.dt.size : Int))))))) := Lib.hid (by
    unfold memB filB
    rw [h49, h50, h51, h52, if_pos hk48, rng_zero e.ma, rng_zero e.mi, show (sumW S e.pn == (e.dt.size : Int)) = ((e.dt.size : Int) == sumW S e.pn) from Bool.beq_comm]
    generalize e.lk.toList.isEmpty = a1; generalize rngB e.ma 0 2097151 = a2; generalize rngB e.mi 0 2097151 = a3; generalize (e.ma == 0) = a4; generalize (e.mi == 0) = a5; cases a1 <;> cases a2 <;> cases a3 <;> cases a4 <;> cases a5 <;> simp)
  have c0 := fun w => within_rng e.kd 48 54 w
  have c2 := fun w => refPlain_same e.nm 120 w
  have c3 := fun w => refPlain_same e.lk 120 w
  have c4 := fun w => refPlain_same e.us 32 w
  have c5 := fun w => refPlain_same e.gr 32 w
  have c6 := fun w => within_rng e.md 0 4095 w
  have c7 := fun w => within_rng e.ui 0 1099511627775 w
  have c8 := fun w => within_rng e.gi 0 1099511627775 w
  have c9 := fun w => timeRight_any e.ts e.tn w
  have c10 := fun w => one_lit false w
  have c11 := fun w => within_rngE e.ma 0 0 w
  have c12 := fun w => within_rngE e.mi 0 0 w
  simp at c10
  have c13 := fun w => within_rng e.sz 0 4000 w
  have c14 := fun w => refSparse_any e ok w
  have hszr : rngB e.sz 0 4000 = true → e.sz ≤ 9223372036854775807 := fun h => by
    unfold rngB at h
    simp only [Bool.and_eq_true, decide_eq_true_eq] at h
    omega
  have c15 := fun W (hs : e.sz ≤ 9223372036854775807) (hE : Ext w W) => mapRight_any W _ e.pn A S e.sz hs (hp.ext hE)
  have c16 := fun W (hE : Ext w W) => mapSize_any W _ e.pn A S (hp.ext hE)
  have hb := get_bt e.nm
  have hsu : 0 < e.nm.size → sufB e.nm = (bt e.nm (e.nm.size - 1) == 47) := suf_last
  have hne : e.nm.toList.isEmpty = false → 0 < e.nm.size := fun h => by
    rw [ByteArray.toList_eq] at h
    rcases Nat.eq_zero_or_pos e.nm.size with h0 | h0
    · have : e.nm.data.toList = [] := List.length_eq_zero_iff.1 h0
      rw [this] at h
      cases h
    · exact h0
  have Hsu := Lib.hid hsu
  have Hne := Lib.hid hne
  clear hp hk48 hsu hne
  generalize rngB e.kd 48 54 = b0 at *
  generalize sufB e.nm = b1 at *
  generalize txB e.nm 120 = b2 at *
  generalize txB e.lk 120 = b3 at *
  generalize txB e.us 32 = b4 at *
  generalize txB e.gr 32 = b5 at *
  generalize rngB e.md 0 4095 = b6 at *
  generalize rngB e.ui 0 1099511627775 = b7 at *
  generalize rngB e.gi 0 1099511627775 = b8 at *
  generalize timeB e.ts e.tn = b9 at *
  generalize rngB e.ma 0 0 = b11 at *
  generalize rngB e.mi 0 0 = b12 at *
  generalize rngB e.sz 0 4000 = b13 at *
  generalize spB e.sz e.dt e.pn = b14 at *
  generalize holeB e.pn A S e.sz = b15 at *
  generalize sumW S e.pn = z at *
  have Hszr := Lib.hid hszr
  clear hszr
  have C0 := Lib.hid c0
  have C2 := Lib.hid c2
  have C3 := Lib.hid c3
  have C4 := Lib.hid c4
  have C5 := Lib.hid c5
  have C6 := Lib.hid c6
  have C7 := Lib.hid c7
  have C8 := Lib.hid c8
  have C9 := Lib.hid c9
  have C10 := Lib.hid c10
  have C11 := Lib.hid c11
  have C12 := Lib.hid c12
  have C13 := Lib.hid c13
  have C14 := Lib.hid c14
  have C15 := Lib.hid c15
  have C16 := Lib.hid c16
  clear c0 c2 c3 c4 c5 c6 c7 c8 c9 c10 c11 c12 c13 c14 c15 c16
  have hx0 : Ext w (w.alloc (.cells #[.string e.nm, .int .u8 e.kd, .int .i64 e.md, .int .i64 e.ui, .int .i64 e.gi, .int .i64 e.sz, .int .i64 e.ts, .int .i64 e.tn, .string e.lk, .string e.us, .string e.gr, .int .i64 e.ma, .int .i64 e.mi, .string e.dt, .slice e.pa e.pn e.pc] 26)) := (Ext.refl w).alloc _
  go_enter Tryz.func34, Tryz.ntmps34
  go_wp2_with fail
  refine (C0.out _).mono ?_; rintro x w1 ⟨rfl, rfl⟩
  cases b0 with
  | false =>
    go_wp2_with fail
    go_ret
    exact ⟨ret_bool (by rw [hd.out]; simp), (by show Below _ _ _; repeat' (first | (with_reducible exact Below.refl _ _) | (with_reducible assumption) | (with_reducible refine belowDrewN ?_ _) | (with_reducible refine Below.alloc ?_ ?_ _) | (with_reducible refine Below.drew ?_) | (with_reducible refine Below.setCell ?_ ?_ _) | go_size))⟩
  | true =>
    cases he : e.nm.toList.isEmpty with
    | true =>
      have Hn := Lib.hid he
      go_wp2_with fail
      go_ret
      exact ⟨ret_bool (by rw [hd.out, Hn.out]; simp), (by show Below _ _ _; repeat' (first | (with_reducible exact Below.refl _ _) | (with_reducible assumption) | (with_reducible refine belowDrewN ?_ _) | (with_reducible refine Below.alloc ?_ ?_ _) | (with_reducible refine Below.drew ?_) | (with_reducible refine Below.setCell ?_ ?_ _) | go_size))⟩
    | false =>
      have Hn := Lib.hid he
      have i0 := Hne.out he
      have i1 : (0 : Int) ≤ (e.nm.size : Int) - 1 := by omega
      have i2 : ((e.nm.size : Int) - 1).toNat = e.nm.size - 1 := by omega
      have i3 : e.nm.size - 1 < e.nm.size := by omega
      have i4 : (e.nm.size : Int) - 1 < e.nm.size := by omega
      have q1 := Hsu.out i0
      cases b1 with
      | true =>
        have q2 := q1.symm
        clear q1
        go_wp2_with fail
        go_ret
        exact ⟨ret_bool (by rw [hd.out]; simp), (by show Below _ _ _; repeat' (first | (with_reducible exact Below.refl _ _) | (with_reducible assumption) | (with_reducible refine belowDrewN ?_ _) | (with_reducible refine Below.alloc ?_ ?_ _) | (with_reducible refine Below.drew ?_) | (with_reducible refine Below.setCell ?_ ?_ _) | go_size))⟩
      | false =>
        have q2 := q1.symm
        clear q1
        go_wp2_with fail
        refine (C2.out _).mono ?_; rintro x w1 ⟨rfl, rfl⟩
        cases b2 with
        | false =>
          go_wp2_with fail
          go_ret
          exact ⟨ret_bool (by rw [hd.out]; simp), (by show Below _ _ _; repeat' (first | (with_reducible exact Below.refl _ _) | (with_reducible assumption) | (with_reducible refine belowDrewN ?_ _) | (with_reducible refine Below.alloc ?_ ?_ _) | (with_reducible refine Below.drew ?_) | (with_reducible refine Below.setCell ?_ ?_ _) | go_size))⟩
        | true =>
          go_wp2_with fail
          refine (C3.out _).mono ?_; rintro x w1 ⟨rfl, rfl⟩
          cases b3 with
          | false =>
            go_wp2_with fail
            go_ret
            exact ⟨ret_bool (by rw [hd.out]; simp), (by show Below _ _ _; repeat' (first | (with_reducible exact Below.refl _ _) | (with_reducible assumption) | (with_reducible refine belowDrewN ?_ _) | (with_reducible refine Below.alloc ?_ ?_ _) | (with_reducible refine Below.drew ?_) | (with_reducible refine Below.setCell ?_ ?_ _) | go_size))⟩
          | true =>
            go_wp2_with fail
            refine (C4.out _).mono ?_; rintro x w1 ⟨rfl, rfl⟩
            cases b4 with
            | false =>
              go_wp2_with fail
              go_ret
              exact ⟨ret_bool (by rw [hd.out]; simp), (by show Below _ _ _; repeat' (first | (with_reducible exact Below.refl _ _) | (with_reducible assumption) | (with_reducible refine belowDrewN ?_ _) | (with_reducible refine Below.alloc ?_ ?_ _) | (with_reducible refine Below.drew ?_) | (with_reducible refine Below.setCell ?_ ?_ _) | go_size))⟩
            | true =>
              go_wp2_with fail
              refine (C5.out _).mono ?_; rintro x w1 ⟨rfl, rfl⟩
              cases b5 with
              | false =>
                go_wp2_with fail
                go_ret
                exact ⟨ret_bool (by rw [hd.out]; simp), (by show Below _ _ _; repeat' (first | (with_reducible exact Below.refl _ _) | (with_reducible assumption) | (with_reducible refine belowDrewN ?_ _) | (with_reducible refine Below.alloc ?_ ?_ _) | (with_reducible refine Below.drew ?_) | (with_reducible refine Below.setCell ?_ ?_ _) | go_size))⟩
              | true =>
                go_wp2_with fail
                refine (C6.out _).mono ?_; rintro x w1 ⟨rfl, rfl⟩
                cases b6 with
                | false =>
                  go_wp2_with fail
                  go_ret
                  exact ⟨ret_bool (by rw [hd.out]; simp), (by show Below _ _ _; repeat' (first | (with_reducible exact Below.refl _ _) | (with_reducible assumption) | (with_reducible refine belowDrewN ?_ _) | (with_reducible refine Below.alloc ?_ ?_ _) | (with_reducible refine Below.drew ?_) | (with_reducible refine Below.setCell ?_ ?_ _) | go_size))⟩
                | true =>
                  go_wp2_with fail
                  refine (C7.out _).mono ?_; rintro x w1 ⟨rfl, rfl⟩
                  cases b7 with
                  | false =>
                    go_wp2_with fail
                    go_ret
                    exact ⟨ret_bool (by rw [hd.out]; simp), (by show Below _ _ _; repeat' (first | (with_reducible exact Below.refl _ _) | (with_reducible assumption) | (with_reducible refine belowDrewN ?_ _) | (with_reducible refine Below.alloc ?_ ?_ _) | (with_reducible refine Below.drew ?_) | (with_reducible refine Below.setCell ?_ ?_ _) | go_size))⟩
                  | true =>
                    go_wp2_with fail
                    refine (C8.out _).mono ?_; rintro x w1 ⟨rfl, rfl⟩
                    cases b8 with
                    | false =>
                      go_wp2_with fail
                      go_ret
                      exact ⟨ret_bool (by rw [hd.out]; simp), (by show Below _ _ _; repeat' (first | (with_reducible exact Below.refl _ _) | (with_reducible assumption) | (with_reducible refine belowDrewN ?_ _) | (with_reducible refine Below.alloc ?_ ?_ _) | (with_reducible refine Below.drew ?_) | (with_reducible refine Below.setCell ?_ ?_ _) | go_size))⟩
                    | true =>
                      go_wp2_with fail
                      refine (C9.out _).mono ?_; rintro x w2 ⟨rfl, hx2'⟩
                      have hb2 : Below w.heap.size w w2 := Ext.trans (by show Below _ _ _; repeat' (first | (with_reducible exact Below.refl _ _) | (with_reducible assumption) | (with_reducible refine belowDrewN ?_ _) | (with_reducible refine Below.alloc ?_ ?_ _) | (with_reducible refine Below.drew ?_) | (with_reducible refine Below.setCell ?_ ?_ _) | go_size)) hx2'
                      have hx2 : Ext (w.alloc (.cells #[.string e.nm, .int .u8 e.kd, .int .i64 e.md, .int .i64 e.ui, .int .i64 e.gi, .int .i64 e.sz, .int .i64 e.ts, .int .i64 e.tn, .string e.lk, .string e.us, .string e.gr, .int .i64 e.ma, .int .i64 e.mi, .string e.dt, .slice e.pa e.pn e.pc] 26)) w2 := hx2'
                      clear hx2'
                      obtain ⟨⟨g0, g1, g2, g3, g4, g5, g6, g7, g8, g9, g10, g11, g12, g13, g14⟩, gl⟩ := ent_box e hx2
                      cases b9 with
                      | false =>
                        go_wp2_with fail
                        go_ret
                        exact ⟨ret_bool (by rw [hd.out]; simp), (by show Below _ _ _; repeat' (first | (with_reducible exact Below.refl _ _) | (with_reducible assumption) | (with_reducible refine belowDrewN ?_ _) | (with_reducible refine Below.alloc ?_ ?_ _) | (with_reducible refine Below.drew ?_) | (with_reducible refine Below.setCell ?_ ?_ _) | go_size))⟩
                      | true =>
                        cases hl : e.lk.toList.isEmpty with
                        | false =>
                          have Hl := Lib.hid hl
                          go_wp2_with fail
                          go_ret
                          exact ⟨ret_bool (by rw [hd.out, Hl.out]; simp), (by show Below _ _ _; repeat' (first | (with_reducible exact Below.refl _ _) | (with_reducible assumption) | (with_reducible refine belowDrewN ?_ _) | (with_reducible refine Below.alloc ?_ ?_ _) | (with_reducible refine Below.drew ?_) | (with_reducible refine Below.setCell ?_ ?_ _) | go_size))⟩
                        | true =>
                          have Hl := Lib.hid hl
                          clear q2
                          go_wp2_with fail
                          refine wp_region_det (Stood _) (by kernel_rfl) (by kernel_rfl) (Stood.start _) ?_
                          repeat (first
                            | (refine det_skip (by rfl) ?_; simp only [Act.put, List.setIfInBounds_toArray, List.set_cons_zero, List.set_cons_succ])
                            | (refine det_op (v := ?_) rfl (by rfl) (fun w' hS => ?_) ?_; rotate_left; (focus (obtain ⟨hcl, hxt⟩ := hS; go_wp2_with (first | ((with_reducible refine (C10.out _).mono ?_); rintro e w1 ⟨rfl, hx1⟩) | ((with_reducible refine (C11.out _).mono ?_); rintro e w1 ⟨rfl, hx1⟩)); (first | refine ⟨?_, rfl, hcl, hxt⟩ | refine ⟨?_, rfl, Stood.of (hxt.trans (by assumption))⟩); (first | (simp only [List.getElem?_toArray, List.getElem?_cons_succ, List.getElem?_cons_zero]; rfl) | rfl))); simp only [Act.put, List.setIfInBounds_toArray, List.set_cons_zero, List.set_cons_succ]))
                          refine det_end ?_
                          intro w3 hS
                          have hw3 : Below w.heap.size w w3 := Ext.trans (b := w2) hb2 hS.2
                          have hxw3 : Ext (w.alloc (.cells #[.string e.nm, .int .u8 e.kd, .int .i64 e.md, .int .i64 e.ui, .int .i64 e.gi, .int .i64 e.sz, .int .i64 e.ts, .int .i64 e.tn, .string e.lk, .string e.us, .string e.gr, .int .i64 e.ma, .int .i64 e.mi, .string e.dt, .slice e.pa e.pn e.pc] 26)) w3 := Ext.trans hx2 hS.2
                          clear hS
                          clear g0 g1 g2 g3 g4 g5 g6 g7 g8 g9 g10 g11 g12 g13 g14
                          obtain ⟨⟨g0, g1, g2, g3, g4, g5, g6, g7, g8, g9, g10, g11, g12, g13, g14⟩, glw3⟩ := ent_box e hxw3
                          cases b11 with
                          | false =>
                            go_wp2_with fail
                            go_ret
                            exact ⟨ret_bool (by rw [hd.out]; simp), (by show Below _ _ _; repeat' (first | (with_reducible exact Below.refl _ _) | (with_reducible assumption) | (with_reducible refine belowDrewN ?_ _) | (with_reducible refine Below.alloc ?_ ?_ _) | (with_reducible refine Below.drew ?_) | (with_reducible refine Below.setCell ?_ ?_ _) | go_size))⟩
                          | true =>
                            go_wp2_with fail
                            refine wp_region_det (Stood _) (by kernel_rfl) (by kernel_rfl) (Stood.start _) ?_
                            repeat (first
                              | (refine det_skip (by rfl) ?_; simp only [Act.put, List.setIfInBounds_toArray, List.set_cons_zero, List.set_cons_succ])
                              | (refine det_op (v := ?_) rfl (by rfl) (fun w' hS => ?_) ?_; rotate_left; (focus (obtain ⟨hcl, hxt⟩ := hS; go_wp2_with (first | ((with_reducible refine (C10.out _).mono ?_); rintro e w1 ⟨rfl, hx1⟩) | ((with_reducible refine (C12.out _).mono ?_); rintro e w1 ⟨rfl, hx1⟩)); (first | refine ⟨?_, rfl, hcl, hxt⟩ | refine ⟨?_, rfl, Stood.of (hxt.trans (by assumption))⟩); (first | (simp only [List.getElem?_toArray, List.getElem?_cons_succ, List.getElem?_cons_zero]; rfl) | rfl))); simp only [Act.put, List.setIfInBounds_toArray, List.set_cons_zero, List.set_cons_succ]))
                            refine det_end ?_
                            intro w4 hS
                            have hw4 : Below w.heap.size w w4 := Ext.trans (b := w3) hw3 hS.2
                            have hxw4 : Ext (w.alloc (.cells #[.string e.nm, .int .u8 e.kd, .int .i64 e.md, .int .i64 e.ui, .int .i64 e.gi, .int .i64 e.sz, .int .i64 e.ts, .int .i64 e.tn, .string e.lk, .string e.us, .string e.gr, .int .i64 e.ma, .int .i64 e.mi, .string e.dt, .slice e.pa e.pn e.pc] 26)) w4 := Ext.trans hxw3 hS.2
                            clear hS
                            clear g0 g1 g2 g3 g4 g5 g6 g7 g8 g9 g10 g11 g12 g13 g14
                            obtain ⟨⟨g0, g1, g2, g3, g4, g5, g6, g7, g8, g9, g10, g11, g12, g13, g14⟩, glw4⟩ := ent_box e hxw4
                            cases b12 with
                            | false =>
                              go_wp2_with fail
                              go_ret
                              exact ⟨ret_bool (by rw [hd.out]; simp), (by show Below _ _ _; repeat' (first | (with_reducible exact Below.refl _ _) | (with_reducible assumption) | (with_reducible refine belowDrewN ?_ _) | (with_reducible refine Below.alloc ?_ ?_ _) | (with_reducible refine Below.drew ?_) | (with_reducible refine Below.setCell ?_ ?_ _) | go_size))⟩
                            | true =>
                              go_wp2_with fail
                              refine (C13.out _).mono ?_; rintro x w1 ⟨rfl, hw1⟩; subst w1
                              cases b13 with
                              | false =>
                                go_wp2_with fail
                                go_ret
                                exact ⟨ret_bool (by rw [hd.out]; simp), (by show Below _ _ _; repeat' (first | (with_reducible exact Below.refl _ _) | (with_reducible assumption) | (with_reducible refine belowDrewN ?_ _) | (with_reducible refine Below.alloc ?_ ?_ _) | (with_reducible refine Below.drew ?_) | (with_reducible refine Below.setCell ?_ ?_ _) | go_size))⟩
                              | true =>
                                have hsz := Hszr.out rfl
                                have hE4 : Ext w w4 := hw4
                                cases hq : (z == (e.dt.size : Int)) <;> cases b14 <;> cases b15
                                all_goals
                                  have Hq := Lib.hid hq
                                  go_wp2_with fail
                                  refine wp_region_det (Stood _) (by kernel_rfl) (by kernel_rfl) (Stood.start _) ?_
                                  repeat (first
                                    | (refine det_skip (by rfl) ?_; simp only [Act.put, List.setIfInBounds_toArray, List.set_cons_zero, List.set_cons_succ])
                                    | (refine det_op (v := ?_) rfl (by rfl) (fun w' hS => ?_) ?_; rotate_left; (focus (obtain ⟨hcl, hxt⟩ := hS; go_wp2_with (first | ((with_reducible refine (C14.out _).mono ?_); rintro e w1 ⟨rfl, hx1⟩) | ((with_reducible refine (C15.out _ hsz (Ext.trans hE4 hxt)).mono ?_); rintro e w1 ⟨rfl, hx1⟩) | ((with_reducible refine (C16.out _ (Ext.trans hE4 hxt)).mono ?_); rintro e w1 ⟨rfl, hx1⟩)); (first | refine ⟨?_, rfl, hcl, hxt⟩ | refine ⟨?_, rfl, Stood.of (hxt.trans (by assumption))⟩); (first | (simp only [List.getElem?_toArray, List.getElem?_cons_succ, List.getElem?_cons_zero]; rfl) | rfl))); simp only [Act.put, List.setIfInBounds_toArray, List.set_cons_zero, List.set_cons_succ]))
                                  refine det_end ?_
                                  intro w5 hS
                                  have hx := hS.2
                                  clear hS
                                  go_wp2_with fail
                                  go_ret
                                  exact ⟨ret_bool (by rw [hd.out, Hl.out, Hn.out, Hq.out]; simp), Ext.trans hw4 hx⟩
end Go.Proofs.YtnbcbipigiopbaaGreatDoor
