/-
  member.Right: one walk, parted at each test.
-/
import Derived.Test.YtnbcbipigiopbaaGreatDoorPkH
import Derived.Test.YtnbcbipigiopbaaGreatDoorShelf
namespace Go.Proofs.YtnbcbipigiopbaaGreatDoor
open Go.RowKit Go.WideShapes

/-- A member's cells in a block of its own: they stay. -/
theorem ent_box (e : Ent) {w W : World} (h : Ext (w.alloc (.cells #[.string e.nm, .int .u8 e.kd, .int .i64 e.md, .int .i64 e.ui, .int .i64 e.gi, .int .i64 e.sz, .int .i64 e.ts, .int .i64 e.tn, .string e.lk, .string e.us, .string e.gr, .int .i64 e.ma, .int .i64 e.mi, .string e.dt, .slice e.pa e.pn e.pc] 26)) W) :
    (W.cell? ⟨w.heap.size, 0, none⟩ = some (.string e.nm) ∧ W.cell? ⟨w.heap.size, 1, none⟩ = some (.int .u8 e.kd) ∧ W.cell? ⟨w.heap.size, 2, none⟩ = some (.int .i64 e.md) ∧ W.cell? ⟨w.heap.size, 3, none⟩ = some (.int .i64 e.ui) ∧ W.cell? ⟨w.heap.size, 4, none⟩ = some (.int .i64 e.gi) ∧ W.cell? ⟨w.heap.size, 5, none⟩ = some (.int .i64 e.sz) ∧ W.cell? ⟨w.heap.size, 6, none⟩ = some (.int .i64 e.ts) ∧ W.cell? ⟨w.heap.size, 7, none⟩ = some (.int .i64 e.tn) ∧ W.cell? ⟨w.heap.size, 8, none⟩ = some (.string e.lk) ∧ W.cell? ⟨w.heap.size, 9, none⟩ = some (.string e.us) ∧ W.cell? ⟨w.heap.size, 10, none⟩ = some (.string e.gr) ∧ W.cell? ⟨w.heap.size, 11, none⟩ = some (.int .i64 e.ma) ∧ W.cell? ⟨w.heap.size, 12, none⟩ = some (.int .i64 e.mi) ∧ W.cell? ⟨w.heap.size, 13, none⟩ = some (.string e.dt) ∧ W.cell? ⟨w.heap.size, 14, none⟩ = some (.slice e.pa e.pn e.pc)) ∧ w.heap.size < W.heap.size := by
  have hc : ∀ (j : Nat) (v : Value), (#[.string e.nm, .int .u8 e.kd, .int .i64 e.md, .int .i64 e.ui, .int .i64 e.gi, .int .i64 e.sz, .int .i64 e.ts, .int .i64 e.tn, .string e.lk, .string e.us, .string e.gr, .int .i64 e.ma, .int .i64 e.mi, .string e.dt, .slice e.pa e.pn e.pc] : Array Value)[j]? = some v → W.cell? ⟨w.heap.size, j, none⟩ = some v := fun j v hj => h.cell (by simpa using hj)
  exact ⟨⟨hc 0 _ rfl, hc 1 _ rfl, hc 2 _ rfl, hc 3 _ rfl, hc 4 _ rfl, hc 5 _ rfl, hc 6 _ rfl, hc 7 _ rfl, hc 8 _ rfl, hc 9 _ rfl, hc 10 _ rfl, hc 11 _ rfl, hc 12 _ rfl, hc 13 _ rfl, hc 14 _ rfl⟩, World.block_lt_of_cell? W _ (hc 0 _ rfl)⟩

theorem isLink_ext (w : World) (k : Int) : Calls Tryz.prog 89 #[.int .u8 k] w fun e w' => e = .returned (.bool (k == 49 || k == 50)) ∧ Ext w w' :=
  (isLink_same w k).mono fun _ _ ⟨h, k⟩ => ⟨h, by rw [k]; exact Ext.refl _⟩

set_option maxHeartbeats 16000000 in
set_option maxRecDepth 100000 in
theorem memRight_any (e : Ent) (ok : e.Ok) (A S : Nat → Int) (w : World) (hp : IsPieces w (.slice e.pa e.pn e.pc) e.pn A S) :
    Calls Tryz.prog 39 #[.agg #[.string e.nm, .int .u8 e.kd, .int .i64 e.md, .int .i64 e.ui, .int .i64 e.gi, .int .i64 e.sz, .int .i64 e.ts, .int .i64 e.tn, .string e.lk, .string e.us, .string e.gr, .int .i64 e.ma, .int .i64 e.mi, .string e.dt, .slice e.pa e.pn e.pc]] w fun x w' => x = .returned (.bool (memB e.kd e.md e.ui e.gi e.sz e.ts e.tn e.ma e.mi e.nm e.lk e.us e.gr e.dt e.pn A S)) ∧ Ext w w' := by
  have h1 := ok.nm
  have h2 := ok.lk
  have h3 := ok.us
  have h4 := ok.gr
  have h5 := ok.dt
  have h6 := ok.pn
  have k0 := ok.kd0
  have k1 := ok.kd1
  have c0 := fun w => memWithin_same w e.kd 48 54
  have c1 := fun w => Tryz.strings_HasSuffix e.nm ⟨#[47]⟩ w (by omega)
  rw [show Lib.hasSuffix e.nm.data.toList (⟨#[47]⟩ : ByteArray).data.toList = sufB e.nm from rfl] at c1
  have c2 := fun w => isText_same w e.nm 120
  have c3 := fun w => isText_same w e.lk 120
  have c4 := fun w => isText_same w e.us 32
  have c5 := fun w => isText_same w e.gr 32
  have c6 := fun w => memWithin_same w e.md 0 4095
  have c7 := fun w => memWithin_same w e.ui 0 1099511627775
  have c8 := fun w => memWithin_same w e.gi 0 1099511627775
  have c9 := fun w => stampRight_box e.ts e.tn w
  have c10 := fun w => isLink_ext w e.kd
  have c11 := fun w => memWithin_same w e.ma 0 2097151
  have c12 := fun w => memWithin_same w e.mi 0 2097151
  have c13 := fun w => isDevice_same w e.kd
  have c14 := fun W (hE : Ext w W) => isFilled_any e ok A S W (hp.ext hE)
  have hd : Hid (memB e.kd e.md e.ui e.gi e.sz e.ts e.tn e.ma e.mi e.nm e.lk e.us e.gr e.dt e.pn A S = (rngB e.kd 48 54 && !e.nm.toList.isEmpty && !sufB e.nm && txB e.nm 120 && txB e.lk 120 && txB e.us 32 && txB e.gr 32 && rngB e.md 0 4095 && rngB e.ui 0 1099511627775 && rngB e.gi 0 1099511627775 && timeB e.ts e.tn &&
  (e.lk.toList.isEmpty == !(e.kd == 49 || e.kd == 50)) && rngB e.ma 0 2097151 && rngB e.mi 0 2097151 && (e.kd == 51 || e.kd == 52 || (e.ma == 0 && e.mi == 0)) && filB e.kd e.sz e.dt e.pn A S)) := Lib.hid rfl
  clear hp
  generalize rngB e.kd 48 54 = b0 at *
  generalize sufB e.nm = b1 at *
  generalize txB e.nm 120 = b2 at *
  generalize txB e.lk 120 = b3 at *
  generalize txB e.us 32 = b4 at *
  generalize txB e.gr 32 = b5 at *
  generalize rngB e.md 0 4095 = b6 at *
  generalize rngB e.ui 0 1099511627775 = b7 at *
  generalize rngB e.gi 0 1099511627775 = b8 at *
  generalize timeB e.ts e.tn = b9 at *
  generalize (e.kd == 49 || e.kd == 50) = b10 at *
  generalize rngB e.ma 0 2097151 = b11 at *
  generalize rngB e.mi 0 2097151 = b12 at *
  generalize (e.kd == 51 || e.kd == 52) = b13 at *
  generalize filB e.kd e.sz e.dt e.pn A S = b14 at *
  have C0 := Lib.hid c0
  have C1 := Lib.hid c1
  have C2 := Lib.hid c2
  have C3 := Lib.hid c3
  have C4 := Lib.hid c4
  have C5 := Lib.hid c5
  have C6 := Lib.hid c6
  have C7 := Lib.hid c7
  have C8 := Lib.hid c8
  have C9 := Lib.hid c9
  have C10 := Lib.hid c10
  have C11 := Lib.hid c11
  have C12 := Lib.hid c12
  have C13 := Lib.hid c13
  have C14 := Lib.hid c14
  clear c0 c1 c2 c3 c4 c5 c6 c7 c8 c9 c10 c11 c12 c13 c14
  have hx0 : Ext w (w.alloc (.cells #[.string e.nm, .int .u8 e.kd, .int .i64 e.md, .int .i64 e.ui, .int .i64 e.gi, .int .i64 e.sz, .int .i64 e.ts, .int .i64 e.tn, .string e.lk, .string e.us, .string e.gr, .int .i64 e.ma, .int .i64 e.mi, .string e.dt, .slice e.pa e.pn e.pc] 26)) := (Ext.refl w).alloc _
  have hx := Ext.refl (w.alloc (.cells #[.string e.nm, .int .u8 e.kd, .int .i64 e.md, .int .i64 e.ui, .int .i64 e.gi, .int .i64 e.sz, .int .i64 e.ts, .int .i64 e.tn, .string e.lk, .string e.us, .string e.gr, .int .i64 e.ma, .int .i64 e.mi, .string e.dt, .slice e.pa e.pn e.pc] 26))
  go_enter Tryz.func39, Tryz.ntmps39
  go_wp2_with fail
  refine (C0.out _).mono ?_; rintro x w1 ⟨rfl, rfl⟩
  cases b0 with
  | false =>
    go_wp2_with fail
    go_ret
    exact ⟨ret_bool (by rw [hd.out]; simp), hx0.trans (hx.trans (by show Below _ _ _; repeat' (first | (with_reducible exact Below.refl _ _) | (with_reducible assumption) | (with_reducible refine belowDrewN ?_ _) | (with_reducible refine Below.alloc ?_ ?_ _) | (with_reducible refine Below.drew ?_) | (with_reducible refine Below.setCell ?_ ?_ _) | go_size)))⟩
  | true =>
    cases he : e.nm.toList.isEmpty with
    | true =>
      have he2 : (e.nm.toList == []) = true := by simpa using he
      have Hh := Lib.hid he
      go_wp2_with fail
      go_ret
      exact ⟨ret_bool (by rw [hd.out, Hh.out]; simp), hx0.trans (hx.trans (by show Below _ _ _; repeat' (first | (with_reducible exact Below.refl _ _) | (with_reducible assumption) | (with_reducible refine belowDrewN ?_ _) | (with_reducible refine Below.alloc ?_ ?_ _) | (with_reducible refine Below.drew ?_) | (with_reducible refine Below.setCell ?_ ?_ _) | go_size)))⟩
    | false =>
      have Hn := Lib.hid he
      go_wp2_with fail
      refine (C1.out _).mono ?_; rintro x w1 ⟨rfl, rfl⟩
      cases b1 with
      | true =>
        go_wp2_with fail
        go_ret
        exact ⟨ret_bool (by rw [hd.out]; simp), hx0.trans (hx.trans (by show Below _ _ _; repeat' (first | (with_reducible exact Below.refl _ _) | (with_reducible assumption) | (with_reducible refine belowDrewN ?_ _) | (with_reducible refine Below.alloc ?_ ?_ _) | (with_reducible refine Below.drew ?_) | (with_reducible refine Below.setCell ?_ ?_ _) | go_size)))⟩
      | false =>
        go_wp2_with fail
        refine (C2.out _).mono ?_; rintro x w1 ⟨rfl, rfl⟩
        cases b2 with
        | false =>
          go_wp2_with fail
          go_ret
          exact ⟨ret_bool (by rw [hd.out]; simp), hx0.trans (hx.trans (by show Below _ _ _; repeat' (first | (with_reducible exact Below.refl _ _) | (with_reducible assumption) | (with_reducible refine belowDrewN ?_ _) | (with_reducible refine Below.alloc ?_ ?_ _) | (with_reducible refine Below.drew ?_) | (with_reducible refine Below.setCell ?_ ?_ _) | go_size)))⟩
        | true =>
          go_wp2_with fail
          refine (C3.out _).mono ?_; rintro x w1 ⟨rfl, rfl⟩
          cases b3 with
          | false =>
            go_wp2_with fail
            go_ret
            exact ⟨ret_bool (by rw [hd.out]; simp), hx0.trans (hx.trans (by show Below _ _ _; repeat' (first | (with_reducible exact Below.refl _ _) | (with_reducible assumption) | (with_reducible refine belowDrewN ?_ _) | (with_reducible refine Below.alloc ?_ ?_ _) | (with_reducible refine Below.drew ?_) | (with_reducible refine Below.setCell ?_ ?_ _) | go_size)))⟩
          | true =>
            go_wp2_with fail
            refine (C4.out _).mono ?_; rintro x w1 ⟨rfl, rfl⟩
            cases b4 with
            | false =>
              go_wp2_with fail
              go_ret
              exact ⟨ret_bool (by rw [hd.out]; simp), hx0.trans (hx.trans (by show Below _ _ _; repeat' (first | (with_reducible exact Below.refl _ _) | (with_reducible assumption) | (with_reducible refine belowDrewN ?_ _) | (with_reducible refine Below.alloc ?_ ?_ _) | (with_reducible refine Below.drew ?_) | (with_reducible refine Below.setCell ?_ ?_ _) | go_size)))⟩
            | true =>
              go_wp2_with fail
              refine (C5.out _).mono ?_; rintro x w1 ⟨rfl, rfl⟩
              cases b5 with
              | false =>
                go_wp2_with fail
                go_ret
                exact ⟨ret_bool (by rw [hd.out]; simp), hx0.trans (hx.trans (by show Below _ _ _; repeat' (first | (with_reducible exact Below.refl _ _) | (with_reducible assumption) | (with_reducible refine belowDrewN ?_ _) | (with_reducible refine Below.alloc ?_ ?_ _) | (with_reducible refine Below.drew ?_) | (with_reducible refine Below.setCell ?_ ?_ _) | go_size)))⟩
              | true =>
                go_wp2_with fail
                refine (C6.out _).mono ?_; rintro x w1 ⟨rfl, rfl⟩
                cases b6 with
                | false =>
                  go_wp2_with fail
                  go_ret
                  exact ⟨ret_bool (by rw [hd.out]; simp), hx0.trans (hx.trans (by show Below _ _ _; repeat' (first | (with_reducible exact Below.refl _ _) | (with_reducible assumption) | (with_reducible refine belowDrewN ?_ _) | (with_reducible refine Below.alloc ?_ ?_ _) | (with_reducible refine Below.drew ?_) | (with_reducible refine Below.setCell ?_ ?_ _) | go_size)))⟩
                | true =>
                  go_wp2_with fail
                  refine (C7.out _).mono ?_; rintro x w1 ⟨rfl, rfl⟩
                  cases b7 with
                  | false =>
                    go_wp2_with fail
                    go_ret
                    exact ⟨ret_bool (by rw [hd.out]; simp), hx0.trans (hx.trans (by show Below _ _ _; repeat' (first | (with_reducible exact Below.refl _ _) | (with_reducible assumption) | (with_reducible refine belowDrewN ?_ _) | (with_reducible refine Below.alloc ?_ ?_ _) | (with_reducible refine Below.drew ?_) | (with_reducible refine Below.setCell ?_ ?_ _) | go_size)))⟩
                  | true =>
                    go_wp2_with fail
                    refine (C8.out _).mono ?_; rintro x w1 ⟨rfl, rfl⟩
                    cases b8 with
                    | false =>
                      go_wp2_with fail
                      go_ret
                      exact ⟨ret_bool (by rw [hd.out]; simp), hx0.trans (hx.trans (by show Below _ _ _; repeat' (first | (with_reducible exact Below.refl _ _) | (with_reducible assumption) | (with_reducible refine belowDrewN ?_ _) | (with_reducible refine Below.alloc ?_ ?_ _) | (with_reducible refine Below.drew ?_) | (with_reducible refine Below.setCell ?_ ?_ _) | go_size)))⟩
                    | true =>
                      go_wp2_with fail
                      refine (C9.out _).mono ?_; rintro x w1 ⟨rfl, rfl⟩
                      cases b9 with
                      | false =>
                        go_wp2_with fail
                        go_ret
                        exact ⟨ret_bool (by rw [hd.out]; simp), hx0.trans (hx.trans (by show Below _ _ _; repeat' (first | (with_reducible exact Below.refl _ _) | (with_reducible assumption) | (with_reducible refine belowDrewN ?_ _) | (with_reducible refine Below.alloc ?_ ?_ _) | (with_reducible refine Below.drew ?_) | (with_reducible refine Below.setCell ?_ ?_ _) | go_size)))⟩
                      | true =>
                        rcases (show (e.lk.toList.isEmpty = true ∧ b10 = true) ∨ (e.lk.toList.isEmpty = false ∧ b10 = false) ∨ (e.lk.toList.isEmpty = true ∧ b10 = false) ∨ (e.lk.toList.isEmpty = false ∧ b10 = true) by cases e.lk.toList.isEmpty <;> cases b10 <;> simp) with ⟨hl, rfl⟩ | ⟨hl, rfl⟩ | ⟨hl, rfl⟩ | ⟨hl, rfl⟩
                        · have Hl := Lib.hid hl
                          go_wp2_with fail
                          refine wp_region_det (Stood _) (by kernel_rfl) (by kernel_rfl) (Stood.start _) ?_
                          repeat (first
                            | (refine det_skip (by rfl) ?_; simp only [Act.put, List.setIfInBounds_toArray, List.set_cons_zero, List.set_cons_succ])
                            | (refine det_op (v := ?_) rfl (by rfl) (fun w' hS => ?_) ?_; rotate_left; (focus (obtain ⟨hcl, hxt⟩ := hS; go_wp2_with (first | ((with_reducible refine (C10.out _).mono ?_); rintro e w1 ⟨rfl, hx1⟩)); (first | refine ⟨?_, rfl, hcl, hxt⟩ | refine ⟨?_, rfl, Stood.of (hxt.trans (by assumption))⟩); (first | (simp only [List.getElem?_toArray, List.getElem?_cons_succ, List.getElem?_cons_zero]; rfl) | rfl))); simp only [Act.put, List.setIfInBounds_toArray, List.set_cons_zero, List.set_cons_succ]))
                          refine det_end ?_
                          intro w2 hS
                          have hb2 : Below w.heap.size w w2 := Ext.trans (by show Below _ _ _; repeat' (first | (with_reducible exact Below.refl _ _) | (with_reducible assumption) | (with_reducible refine belowDrewN ?_ _) | (with_reducible refine Below.alloc ?_ ?_ _) | (with_reducible refine Below.drew ?_) | (with_reducible refine Below.setCell ?_ ?_ _) | go_size)) hS.2
                          have hx2 : Ext (w.alloc (.cells #[.string e.nm, .int .u8 e.kd, .int .i64 e.md, .int .i64 e.ui, .int .i64 e.gi, .int .i64 e.sz, .int .i64 e.ts, .int .i64 e.tn, .string e.lk, .string e.us, .string e.gr, .int .i64 e.ma, .int .i64 e.mi, .string e.dt, .slice e.pa e.pn e.pc] 26)) w2 := Ext.trans ((Ext.refl _).alloc _) hS.2
                          clear hS
                          obtain ⟨⟨g0, g1, g2, g3, g4, g5, g6, g7, g8, g9, g10, g11, g12, g13, g14⟩, gl⟩ := ent_box e hx2
                          go_wp2_with fail
                          go_ret
                          exact ⟨ret_bool (by rw [hd.out, Hl.out]; simp), (by show Below _ _ _; repeat' (first | (with_reducible exact Below.refl _ _) | (with_reducible assumption) | (with_reducible refine belowDrewN ?_ _) | (with_reducible refine Below.alloc ?_ ?_ _) | (with_reducible refine Below.drew ?_) | (with_reducible refine Below.setCell ?_ ?_ _) | go_size))⟩
                        · have Hl := Lib.hid hl
                          go_wp2_with fail
                          refine wp_region_det (Stood _) (by kernel_rfl) (by kernel_rfl) (Stood.start _) ?_
                          repeat (first
                            | (refine det_skip (by rfl) ?_; simp only [Act.put, List.setIfInBounds_toArray, List.set_cons_zero, List.set_cons_succ])
                            | (refine det_op (v := ?_) rfl (by rfl) (fun w' hS => ?_) ?_; rotate_left; (focus (obtain ⟨hcl, hxt⟩ := hS; go_wp2_with (first | ((with_reducible refine (C10.out _).mono ?_); rintro e w1 ⟨rfl, hx1⟩)); (first | refine ⟨?_, rfl, hcl, hxt⟩ | refine ⟨?_, rfl, Stood.of (hxt.trans (by assumption))⟩); (first | (simp only [List.getElem?_toArray, List.getElem?_cons_succ, List.getElem?_cons_zero]; rfl) | rfl))); simp only [Act.put, List.setIfInBounds_toArray, List.set_cons_zero, List.set_cons_succ]))
                          refine det_end ?_
                          intro w2 hS
                          have hb2 : Below w.heap.size w w2 := Ext.trans (by show Below _ _ _; repeat' (first | (with_reducible exact Below.refl _ _) | (with_reducible assumption) | (with_reducible refine belowDrewN ?_ _) | (with_reducible refine Below.alloc ?_ ?_ _) | (with_reducible refine Below.drew ?_) | (with_reducible refine Below.setCell ?_ ?_ _) | go_size)) hS.2
                          have hx2 : Ext (w.alloc (.cells #[.string e.nm, .int .u8 e.kd, .int .i64 e.md, .int .i64 e.ui, .int .i64 e.gi, .int .i64 e.sz, .int .i64 e.ts, .int .i64 e.tn, .string e.lk, .string e.us, .string e.gr, .int .i64 e.ma, .int .i64 e.mi, .string e.dt, .slice e.pa e.pn e.pc] 26)) w2 := Ext.trans ((Ext.refl _).alloc _) hS.2
                          clear hS
                          obtain ⟨⟨g0, g1, g2, g3, g4, g5, g6, g7, g8, g9, g10, g11, g12, g13, g14⟩, gl⟩ := ent_box e hx2
                          go_wp2_with fail
                          go_ret
                          exact ⟨ret_bool (by rw [hd.out, Hl.out]; simp), (by show Below _ _ _; repeat' (first | (with_reducible exact Below.refl _ _) | (with_reducible assumption) | (with_reducible refine belowDrewN ?_ _) | (with_reducible refine Below.alloc ?_ ?_ _) | (with_reducible refine Below.drew ?_) | (with_reducible refine Below.setCell ?_ ?_ _) | go_size))⟩
                        · have Hl := Lib.hid hl
                          go_wp2_with fail
                          refine wp_region_det (Stood _) (by kernel_rfl) (by kernel_rfl) (Stood.start _) ?_
                          repeat (first
                            | (refine det_skip (by rfl) ?_; simp only [Act.put, List.setIfInBounds_toArray, List.set_cons_zero, List.set_cons_succ])
                            | (refine det_op (v := ?_) rfl (by rfl) (fun w' hS => ?_) ?_; rotate_left; (focus (obtain ⟨hcl, hxt⟩ := hS; go_wp2_with (first | ((with_reducible refine (C10.out _).mono ?_); rintro e w1 ⟨rfl, hx1⟩)); (first | refine ⟨?_, rfl, hcl, hxt⟩ | refine ⟨?_, rfl, Stood.of (hxt.trans (by assumption))⟩); (first | (simp only [List.getElem?_toArray, List.getElem?_cons_succ, List.getElem?_cons_zero]; rfl) | rfl))); simp only [Act.put, List.setIfInBounds_toArray, List.set_cons_zero, List.set_cons_succ]))
                          refine det_end ?_
                          intro w2 hS
                          have hb2 : Below w.heap.size w w2 := Ext.trans (by show Below _ _ _; repeat' (first | (with_reducible exact Below.refl _ _) | (with_reducible assumption) | (with_reducible refine belowDrewN ?_ _) | (with_reducible refine Below.alloc ?_ ?_ _) | (with_reducible refine Below.drew ?_) | (with_reducible refine Below.setCell ?_ ?_ _) | go_size)) hS.2
                          have hx2 : Ext (w.alloc (.cells #[.string e.nm, .int .u8 e.kd, .int .i64 e.md, .int .i64 e.ui, .int .i64 e.gi, .int .i64 e.sz, .int .i64 e.ts, .int .i64 e.tn, .string e.lk, .string e.us, .string e.gr, .int .i64 e.ma, .int .i64 e.mi, .string e.dt, .slice e.pa e.pn e.pc] 26)) w2 := Ext.trans ((Ext.refl _).alloc _) hS.2
                          clear hS
                          obtain ⟨⟨g0, g1, g2, g3, g4, g5, g6, g7, g8, g9, g10, g11, g12, g13, g14⟩, gl⟩ := ent_box e hx2
                          go_wp2_with fail
                          refine (C11.out _).mono ?_; rintro x w1 ⟨rfl, rfl⟩
                          cases b11 with
                          | false =>
                            go_wp2_with fail
                            go_ret
                            exact ⟨ret_bool (by rw [hd.out]; simp), (by show Below _ _ _; repeat' (first | (with_reducible exact Below.refl _ _) | (with_reducible assumption) | (with_reducible refine belowDrewN ?_ _) | (with_reducible refine Below.alloc ?_ ?_ _) | (with_reducible refine Below.drew ?_) | (with_reducible refine Below.setCell ?_ ?_ _) | go_size))⟩
                          | true =>
                            go_wp2_with fail
                            refine (C12.out _).mono ?_; rintro x w1 ⟨rfl, rfl⟩
                            cases b12 with
                            | false =>
                              go_wp2_with fail
                              go_ret
                              exact ⟨ret_bool (by rw [hd.out]; simp), (by show Below _ _ _; repeat' (first | (with_reducible exact Below.refl _ _) | (with_reducible assumption) | (with_reducible refine belowDrewN ?_ _) | (with_reducible refine Below.alloc ?_ ?_ _) | (with_reducible refine Below.drew ?_) | (with_reducible refine Below.setCell ?_ ?_ _) | go_size))⟩
                            | true =>
                              go_wp2_with fail
                              refine (C13.out _).mono ?_; rintro x w1 ⟨rfl, rfl⟩
                              rcases (show (b13 = true) ∨ (b13 = false ∧ e.ma ≠ 0) ∨ (b13 = false ∧ e.ma = 0 ∧ e.mi ≠ 0) ∨ (b13 = false ∧ e.ma = 0 ∧ e.mi = 0) by cases b13 <;> by_cases h1 : e.ma = 0 <;> by_cases h2 : e.mi = 0 <;> simp [h1, h2]) with rfl | ⟨rfl, hma⟩ | ⟨rfl, hma, hmi⟩ | ⟨rfl, hma, hmi⟩
                              · go_wp2_with fail
                                refine (C14.out _ hb2).mono ?_; rintro x w3 ⟨rfl, hx3⟩
                                go_wp2_with fail
                                go_ret
                                exact ⟨ret_bool (by rw [hd.out, Hl.out, Hn.out]; simp), Ext.trans hb2 hx3⟩
                              · have qma : (e.ma != 0) = true := by simpa using hma
                                have Hma := Lib.hid hma
                                clear hma
                                go_wp2_with fail
                                go_ret
                                exact ⟨ret_bool (by rw [hd.out]; simp [Hma.out]), (by show Below _ _ _; repeat' (first | (with_reducible exact Below.refl _ _) | (with_reducible assumption) | (with_reducible refine belowDrewN ?_ _) | (with_reducible refine Below.alloc ?_ ?_ _) | (with_reducible refine Below.drew ?_) | (with_reducible refine Below.setCell ?_ ?_ _) | go_size))⟩
                              · have qma : (e.ma != 0) = false := by simp [hma]
                                have qmi : (e.mi != 0) = true := by simpa using hmi
                                have Hmi := Lib.hid hmi
                                clear hma hmi
                                go_wp2_with fail
                                go_ret
                                exact ⟨ret_bool (by rw [hd.out]; simp [Hmi.out]), (by show Below _ _ _; repeat' (first | (with_reducible exact Below.refl _ _) | (with_reducible assumption) | (with_reducible refine belowDrewN ?_ _) | (with_reducible refine Below.alloc ?_ ?_ _) | (with_reducible refine Below.drew ?_) | (with_reducible refine Below.setCell ?_ ?_ _) | go_size))⟩
                              · have qma : (e.ma != 0) = false := by simp [hma]
                                have qmi : (e.mi != 0) = false := by simp [hmi]
                                have Hma := Lib.hid hma
                                have Hmi := Lib.hid hmi
                                clear hma hmi
                                go_wp2_with fail
                                refine (C14.out _ hb2).mono ?_; rintro x w3 ⟨rfl, hx3⟩
                                go_wp2_with fail
                                go_ret
                                exact ⟨ret_bool (by rw [hd.out, Hl.out, Hn.out]; simp [Hma.out, Hmi.out]), Ext.trans hb2 hx3⟩
                        · have Hl := Lib.hid hl
                          go_wp2_with fail
                          refine wp_region_det (Stood _) (by kernel_rfl) (by kernel_rfl) (Stood.start _) ?_
                          repeat (first
                            | (refine det_skip (by rfl) ?_; simp only [Act.put, List.setIfInBounds_toArray, List.set_cons_zero, List.set_cons_succ])
                            | (refine det_op (v := ?_) rfl (by rfl) (fun w' hS => ?_) ?_; rotate_left; (focus (obtain ⟨hcl, hxt⟩ := hS; go_wp2_with (first | ((with_reducible refine (C10.out _).mono ?_); rintro e w1 ⟨rfl, hx1⟩)); (first | refine ⟨?_, rfl, hcl, hxt⟩ | refine ⟨?_, rfl, Stood.of (hxt.trans (by assumption))⟩); (first | (simp only [List.getElem?_toArray, List.getElem?_cons_succ, List.getElem?_cons_zero]; rfl) | rfl))); simp only [Act.put, List.setIfInBounds_toArray, List.set_cons_zero, List.set_cons_succ]))
                          refine det_end ?_
                          intro w2 hS
                          have hb2 : Below w.heap.size w w2 := Ext.trans (by show Below _ _ _; repeat' (first | (with_reducible exact Below.refl _ _) | (with_reducible assumption) | (with_reducible refine belowDrewN ?_ _) | (with_reducible refine Below.alloc ?_ ?_ _) | (with_reducible refine Below.drew ?_) | (with_reducible refine Below.setCell ?_ ?_ _) | go_size)) hS.2
                          have hx2 : Ext (w.alloc (.cells #[.string e.nm, .int .u8 e.kd, .int .i64 e.md, .int .i64 e.ui, .int .i64 e.gi, .int .i64 e.sz, .int .i64 e.ts, .int .i64 e.tn, .string e.lk, .string e.us, .string e.gr, .int .i64 e.ma, .int .i64 e.mi, .string e.dt, .slice e.pa e.pn e.pc] 26)) w2 := Ext.trans ((Ext.refl _).alloc _) hS.2
                          clear hS
                          obtain ⟨⟨g0, g1, g2, g3, g4, g5, g6, g7, g8, g9, g10, g11, g12, g13, g14⟩, gl⟩ := ent_box e hx2
                          go_wp2_with fail
                          refine (C11.out _).mono ?_; rintro x w1 ⟨rfl, rfl⟩
                          cases b11 with
                          | false =>
                            go_wp2_with fail
                            go_ret
                            exact ⟨ret_bool (by rw [hd.out]; simp), (by show Below _ _ _; repeat' (first | (with_reducible exact Below.refl _ _) | (with_reducible assumption) | (with_reducible refine belowDrewN ?_ _) | (with_reducible refine Below.alloc ?_ ?_ _) | (with_reducible refine Below.drew ?_) | (with_reducible refine Below.setCell ?_ ?_ _) | go_size))⟩
                          | true =>
                            go_wp2_with fail
                            refine (C12.out _).mono ?_; rintro x w1 ⟨rfl, rfl⟩
                            cases b12 with
                            | false =>
                              go_wp2_with fail
                              go_ret
                              exact ⟨ret_bool (by rw [hd.out]; simp), (by show Below _ _ _; repeat' (first | (with_reducible exact Below.refl _ _) | (with_reducible assumption) | (with_reducible refine belowDrewN ?_ _) | (with_reducible refine Below.alloc ?_ ?_ _) | (with_reducible refine Below.drew ?_) | (with_reducible refine Below.setCell ?_ ?_ _) | go_size))⟩
                            | true =>
                              go_wp2_with fail
                              refine (C13.out _).mono ?_; rintro x w1 ⟨rfl, rfl⟩
                              rcases (show (b13 = true) ∨ (b13 = false ∧ e.ma ≠ 0) ∨ (b13 = false ∧ e.ma = 0 ∧ e.mi ≠ 0) ∨ (b13 = false ∧ e.ma = 0 ∧ e.mi = 0) by cases b13 <;> by_cases h1 : e.ma = 0 <;> by_cases h2 : e.mi = 0 <;> simp [h1, h2]) with rfl | ⟨rfl, hma⟩ | ⟨rfl, hma, hmi⟩ | ⟨rfl, hma, hmi⟩
                              · go_wp2_with fail
                                refine (C14.out _ hb2).mono ?_; rintro x w3 ⟨rfl, hx3⟩
                                go_wp2_with fail
                                go_ret
                                exact ⟨ret_bool (by rw [hd.out, Hl.out, Hn.out]; simp), Ext.trans hb2 hx3⟩
                              · have qma : (e.ma != 0) = true := by simpa using hma
                                have Hma := Lib.hid hma
                                clear hma
                                go_wp2_with fail
                                go_ret
                                exact ⟨ret_bool (by rw [hd.out]; simp [Hma.out]), (by show Below _ _ _; repeat' (first | (with_reducible exact Below.refl _ _) | (with_reducible assumption) | (with_reducible refine belowDrewN ?_ _) | (with_reducible refine Below.alloc ?_ ?_ _) | (with_reducible refine Below.drew ?_) | (with_reducible refine Below.setCell ?_ ?_ _) | go_size))⟩
                              · have qma : (e.ma != 0) = false := by simp [hma]
                                have qmi : (e.mi != 0) = true := by simpa using hmi
                                have Hmi := Lib.hid hmi
                                clear hma hmi
                                go_wp2_with fail
                                go_ret
                                exact ⟨ret_bool (by rw [hd.out]; simp [Hmi.out]), (by show Below _ _ _; repeat' (first | (with_reducible exact Below.refl _ _) | (with_reducible assumption) | (with_reducible refine belowDrewN ?_ _) | (with_reducible refine Below.alloc ?_ ?_ _) | (with_reducible refine Below.drew ?_) | (with_reducible refine Below.setCell ?_ ?_ _) | go_size))⟩
                              · have qma : (e.ma != 0) = false := by simp [hma]
                                have qmi : (e.mi != 0) = false := by simp [hmi]
                                have Hma := Lib.hid hma
                                have Hmi := Lib.hid hmi
                                clear hma hmi
                                go_wp2_with fail
                                refine (C14.out _ hb2).mono ?_; rintro x w3 ⟨rfl, hx3⟩
                                go_wp2_with fail
                                go_ret
                                exact ⟨ret_bool (by rw [hd.out, Hl.out, Hn.out]; simp [Hma.out, Hmi.out]), Ext.trans hb2 hx3⟩
end Go.Proofs.YtnbcbipigiopbaaGreatDoor
