/-
  The reference's EntryWrite in V7 and Ustar. No conditions but the arguments' bounds.
-/
import Derived.Test.YtnbcbipigiopbaaGreatDoorMwO
namespace Go.Proofs.YtnbcbipigiopbaaGreatDoor
open Go.RowKit Go.WideShapes

theorem ix346 (k : Int) (h0 : 48 ≤ k) (h1 : k ≤ 54) : decide (0 ≤ Lib.indexByte [51, 52, 54] k.toNat.toUInt8) = ((k == 51 || k == 52) || k == 54) := by
  rcases (show k = 48 ∨ k = 49 ∨ k = 50 ∨ k = 51 ∨ k = 52 ∨ k = 53 ∨ k = 54 by omega) with rfl | rfl | rfl | rfl | rfl | rfl | rfl <;> decide

set_option maxHeartbeats 4000000 in
set_option maxRecDepth 100000 in
theorem refOldSpDir (e : Ent) (ok : e.Ok) (A S : Nat → Int) (w : World) (hp : IsPieces w (.slice e.pa e.pn e.pc) e.pn A S) (d : Int) (hd : d = 1 ∨ d = 2) (hmem : memB e.kd e.md e.ui e.gi e.sz e.ts e.tn e.ma e.mi e.nm e.lk e.us e.gr e.dt e.pn A S = true) (_hdt : e.dt.size ≤ 4009) (h53 : (e.kd == 53) = true) (hsp : spB e.sz e.dt e.pn = true) :
    Calls Tryz.prog 17 #[.int .i64 d, .agg #[.string e.nm, .int .u8 e.kd, .int .i64 e.md, .int .i64 e.ui, .int .i64 e.gi, .int .i64 e.sz, .int .i64 e.ts, .int .i64 e.tn, .string e.lk, .string e.us, .string e.gr, .int .i64 e.ma, .int .i64 e.mi, .string e.dt, .slice e.pa e.pn e.pc]] w fun x w' => x = .returned (.tuple #[.string ⟨#[]⟩, .int .i64 2]) ∧ Ext w w' := by
  have mo := memOk hmem
  have h6 := ok.pn
  have hnm := mo.nm
  have htp := mo.tn0
  have c0 := fun w => within_rng d 1 4 w
  rw [show rngB d 1 4 = true by unfold rngB; rcases hd with rfl | rfl <;> decide] at c0
  have C0 := Lib.hid c0
  have c1 := fun W (hE : Ext w W) => entRight_any e ok A S W (hp.ext hE)
  rw [hmem] at c1
  have C1 := Lib.hid c1
  have c3 := fun w => refSparse_any e ok w
  rw [hsp] at c3
  have C3 := Lib.hid c3
  have d3 : (d == 3) = false := by simp; omega
  have d4 : (d == 4) = false := by simp; omega
  clear hp hmem mo c0 c1 c3 hsp hd htp
  go_enter Tryz.func17, Tryz.ntmps17
  go_wp2_with ((with_reducible refine (C0.out _).mono ?_); rintro x w0 ⟨rfl, rfl⟩)
  refine (C1.out _ ((Ext.refl _).alloc _)).mono ?_; rintro x w1 ⟨rfl, hx1⟩
  obtain ⟨⟨g10, g11, g12, g13, g14, g15, g16, g17, g18, g19, g110, g111, g112, g113, g114⟩, gl1⟩ := ent_box e hx1
  go_wp2_with fail
  refine (C3.out _).mono ?_; rintro x w2 ⟨rfl, hx2⟩
  have hy2 := (hx1.alloc _).trans hx2
  have hw2 := Ext.trans ((Ext.refl w).alloc _) hy2
  obtain ⟨⟨g20, g21, g22, g23, g24, g25, g26, g27, g28, g29, g210, g211, g212, g213, g214⟩, gl2⟩ := ent_box e hy2
  obtain ⟨⟨r20, r21, r22, r23, r24, r25, r26, r27, r28, r29, r210, r211, r212⟩, rf2, rl2⟩ := raw_box hx2
  go_wp2_with fail
  go_ret2
  exact ⟨rfl, hw2⟩

set_option maxHeartbeats 4000000 in
set_option maxRecDepth 100000 in
theorem refOldTnDir (e : Ent) (ok : e.Ok) (A S : Nat → Int) (w : World) (hp : IsPieces w (.slice e.pa e.pn e.pc) e.pn A S) (d : Int) (hd : d = 1 ∨ d = 2) (hmem : memB e.kd e.md e.ui e.gi e.sz e.ts e.tn e.ma e.mi e.nm e.lk e.us e.gr e.dt e.pn A S = true) (_hdt : e.dt.size ≤ 4009) (h53 : (e.kd == 53) = true) (hsp : spB e.sz e.dt e.pn = false) (htn : (e.tn == 0) = false) :
    Calls Tryz.prog 17 #[.int .i64 d, .agg #[.string e.nm, .int .u8 e.kd, .int .i64 e.md, .int .i64 e.ui, .int .i64 e.gi, .int .i64 e.sz, .int .i64 e.ts, .int .i64 e.tn, .string e.lk, .string e.us, .string e.gr, .int .i64 e.ma, .int .i64 e.mi, .string e.dt, .slice e.pa e.pn e.pc]] w fun x w' => x = .returned (.tuple #[.string ⟨#[]⟩, .int .i64 2]) ∧ Ext w w' := by
  have mo := memOk hmem
  have h6 := ok.pn
  have hnm := mo.nm
  have htp := mo.tn0
  have c0 := fun w => within_rng d 1 4 w
  rw [show rngB d 1 4 = true by unfold rngB; rcases hd with rfl | rfl <;> decide] at c0
  have C0 := Lib.hid c0
  have c1 := fun W (hE : Ext w W) => entRight_any e ok A S W (hp.ext hE)
  rw [hmem] at c1
  have C1 := Lib.hid c1
  have c3 := fun w => refSparse_any e ok w
  rw [hsp] at c3
  have C3 := Lib.hid c3
  have d3 : (d == 3) = false := by simp; omega
  have d4 : (d == 4) = false := by simp; omega
  have qn : decide (0 < e.tn) = true := decide_eq_true (by simp at htn; omega)
  clear htn
  clear hp hmem mo c0 c1 c3 hsp hd htp
  go_enter Tryz.func17, Tryz.ntmps17
  go_wp2_with ((with_reducible refine (C0.out _).mono ?_); rintro x w0 ⟨rfl, rfl⟩)
  refine (C1.out _ ((Ext.refl _).alloc _)).mono ?_; rintro x w1 ⟨rfl, hx1⟩
  obtain ⟨⟨g10, g11, g12, g13, g14, g15, g16, g17, g18, g19, g110, g111, g112, g113, g114⟩, gl1⟩ := ent_box e hx1
  go_wp2_with fail
  refine (C3.out _).mono ?_; rintro x w2 ⟨rfl, hx2⟩
  have hy2 := (hx1.alloc _).trans hx2
  have hw2 := Ext.trans ((Ext.refl w).alloc _) hy2
  obtain ⟨⟨g20, g21, g22, g23, g24, g25, g26, g27, g28, g29, g210, g211, g212, g213, g214⟩, gl2⟩ := ent_box e hy2
  obtain ⟨⟨r20, r21, r22, r23, r24, r25, r26, r27, r28, r29, r210, r211, r212⟩, rf2, rl2⟩ := raw_box hx2
  go_wp2_with fail
  go_ret2
  exact ⟨rfl, hw2⟩

set_option maxHeartbeats 4000000 in
set_option maxRecDepth 100000 in
theorem refOldGood2Dir (e : Ent) (ok : e.Ok) (A S : Nat → Int) (w : World) (hp : IsPieces w (.slice e.pa e.pn e.pc) e.pn A S) (d : Int) (hd : d = 1 ∨ d = 2) (hmem : memB e.kd e.md e.ui e.gi e.sz e.ts e.tn e.ma e.mi e.nm e.lk e.us e.gr e.dt e.pn A S = true) (_hdt : e.dt.size ≤ 4009) (h53 : (e.kd == 53) = true) (hsp : spB e.sz e.dt e.pn = false) (htn : (e.tn == 0) = true) (s : ByteArray) (k : Int) (h2 : d = 2)
    (c6 : ∀ w, HasMax w → Calls Tryz.prog 23 #[.int .i64 2, .agg #[.string ⟨#[]⟩, .string ⟨#[]⟩, .string e.us, .string e.gr, .string ⟨#[]⟩, .int .u8 e.kd, .int .i64 e.md, .int .i64 e.ui, .int .i64 e.gi, .int .i64 (e.dt.size : Int), .int .i64 e.ts, .int .i64 e.ma, .int .i64 e.mi], .string (e.nm ++ ⟨#[47]⟩), .string e.lk, .string e.dt] w fun e w' => e = .returned (.tuple #[.string s, .int .i64 k]) ∧ Ext w w') (hm : HasMax w) :
    Calls Tryz.prog 17 #[.int .i64 d, .agg #[.string e.nm, .int .u8 e.kd, .int .i64 e.md, .int .i64 e.ui, .int .i64 e.gi, .int .i64 e.sz, .int .i64 e.ts, .int .i64 e.tn, .string e.lk, .string e.us, .string e.gr, .int .i64 e.ma, .int .i64 e.mi, .string e.dt, .slice e.pa e.pn e.pc]] w fun x w' => x = .returned (.tuple #[.string s, .int .i64 k]) ∧ Ext w w' := by
  have mo := memOk hmem
  have h6 := ok.pn
  have hnm := mo.nm
  have htp := mo.tn0
  have c0 := fun w => within_rng d 1 4 w
  rw [show rngB d 1 4 = true by unfold rngB; rcases hd with rfl | rfl <;> decide] at c0
  have C0 := Lib.hid c0
  have c1 := fun W (hE : Ext w W) => entRight_any e ok A S W (hp.ext hE)
  rw [hmem] at c1
  have C1 := Lib.hid c1
  have c3 := fun w => refSparse_any e ok w
  rw [hsp] at c3
  have C3 := Lib.hid c3
  have C6 := Lib.hid c6
  have qn : decide (0 < e.tn) = false := decide_eq_false (by simp at htn; omega)
  subst h2
  clear hp hmem mo c0 c1 c3 hsp hd htp htn c6
  go_enter Tryz.func17, Tryz.ntmps17
  go_wp2_with ((with_reducible refine (C0.out _).mono ?_); rintro x w0 ⟨rfl, rfl⟩)
  refine (C1.out _ ((Ext.refl _).alloc _)).mono ?_; rintro x w1 ⟨rfl, hx1⟩
  obtain ⟨⟨g10, g11, g12, g13, g14, g15, g16, g17, g18, g19, g110, g111, g112, g113, g114⟩, gl1⟩ := ent_box e hx1
  go_wp2_with fail
  refine (C3.out _).mono ?_; rintro x w2 ⟨rfl, hx2⟩
  have hy2 := (hx1.alloc _).trans hx2
  have hw2 := Ext.trans ((Ext.refl w).alloc _) hy2
  obtain ⟨⟨g20, g21, g22, g23, g24, g25, g26, g27, g28, g29, g210, g211, g212, g213, g214⟩, gl2⟩ := ent_box e hy2
  obtain ⟨⟨r20, r21, r22, r23, r24, r25, r26, r27, r28, r29, r210, r211, r212⟩, rf2, rl2⟩ := raw_box hx2
  go_wp2_with fail
  refine (C6.out _ (hm.ext hw2)).mono ?_; rintro x w4 ⟨rfl, hx4⟩
  go_wp2_with fail
  go_ret2
  exact ⟨rfl, hw2.trans hx4⟩

set_option maxHeartbeats 4000000 in
set_option maxRecDepth 100000 in
theorem refOldGood1Dir (e : Ent) (ok : e.Ok) (A S : Nat → Int) (w : World) (hp : IsPieces w (.slice e.pa e.pn e.pc) e.pn A S) (d : Int) (hd : d = 1 ∨ d = 2) (hmem : memB e.kd e.md e.ui e.gi e.sz e.ts e.tn e.ma e.mi e.nm e.lk e.us e.gr e.dt e.pn A S = true) (_hdt : e.dt.size ≤ 4009) (h53 : (e.kd == 53) = true) (hsp : spB e.sz e.dt e.pn = false) (htn : (e.tn == 0) = true) (s : ByteArray) (k : Int) (h1 : d = 1) (J : Int) (hJ : Lib.indexByte (⟨#[51, 52, 54]⟩ : ByteArray).data.toList e.kd.toNat.toUInt8 = J) (hdv : decide (0 ≤ J) = false)
    (c6 : ∀ w, HasMax w → Calls Tryz.prog 23 #[.int .i64 1, .agg #[.string ⟨#[]⟩, .string ⟨#[]⟩, .string e.us, .string e.gr, .string ⟨#[]⟩, .int .u8 48, .int .i64 e.md, .int .i64 e.ui, .int .i64 e.gi, .int .i64 (e.dt.size : Int), .int .i64 e.ts, .int .i64 e.ma, .int .i64 e.mi], .string (e.nm ++ ⟨#[47]⟩), .string e.lk, .string e.dt] w fun e w' => e = .returned (.tuple #[.string s, .int .i64 k]) ∧ Ext w w') (hm : HasMax w) :
    Calls Tryz.prog 17 #[.int .i64 d, .agg #[.string e.nm, .int .u8 e.kd, .int .i64 e.md, .int .i64 e.ui, .int .i64 e.gi, .int .i64 e.sz, .int .i64 e.ts, .int .i64 e.tn, .string e.lk, .string e.us, .string e.gr, .int .i64 e.ma, .int .i64 e.mi, .string e.dt, .slice e.pa e.pn e.pc]] w fun x w' => x = .returned (.tuple #[.string s, .int .i64 k]) ∧ Ext w w' := by
  have mo := memOk hmem
  have h6 := ok.pn
  have hnm := mo.nm
  have htp := mo.tn0
  have c0 := fun w => within_rng d 1 4 w
  rw [show rngB d 1 4 = true by unfold rngB; rcases hd with rfl | rfl <;> decide] at c0
  have C0 := Lib.hid c0
  have c1 := fun W (hE : Ext w W) => entRight_any e ok A S W (hp.ext hE)
  rw [hmem] at c1
  have C1 := Lib.hid c1
  have c3 := fun w => refSparse_any e ok w
  rw [hsp] at c3
  have C3 := Lib.hid c3
  have C6 := Lib.hid c6
  have C7 := Lib.hid (fun w => idxByte_e ⟨#[51, 52, 54]⟩ e.kd J hJ w)
  have qn : decide (0 < e.tn) = false := decide_eq_false (by simp at htn; omega)
  subst h1
  clear hp hmem mo c0 c1 c3 hsp hd htp htn c6 hJ
  go_enter Tryz.func17, Tryz.ntmps17
  go_wp2_with ((with_reducible refine (C0.out _).mono ?_); rintro x w0 ⟨rfl, rfl⟩)
  refine (C1.out _ ((Ext.refl _).alloc _)).mono ?_; rintro x w1 ⟨rfl, hx1⟩
  obtain ⟨⟨g10, g11, g12, g13, g14, g15, g16, g17, g18, g19, g110, g111, g112, g113, g114⟩, gl1⟩ := ent_box e hx1
  go_wp2_with fail
  refine (C3.out _).mono ?_; rintro x w2 ⟨rfl, hx2⟩
  have hy2 := (hx1.alloc _).trans hx2
  have hw2 := Ext.trans ((Ext.refl w).alloc _) hy2
  obtain ⟨⟨g20, g21, g22, g23, g24, g25, g26, g27, g28, g29, g210, g211, g212, g213, g214⟩, gl2⟩ := ent_box e hy2
  obtain ⟨⟨r20, r21, r22, r23, r24, r25, r26, r27, r28, r29, r210, r211, r212⟩, rf2, rl2⟩ := raw_box hx2
  have hws : Ext w (w2.setCell ⟨w1.heap.size, 5, none⟩ (.int .u8 48)) := hw2.setCell (by have := hx1.size; simp at this; show w.heap.size ≤ w1.heap.size; omega) _
  go_wp2_with ((with_reducible refine (C7.out _).mono ?_); rintro x w3 ⟨rfl, rfl⟩)
  refine (C6.out _ (hm.ext hws)).mono ?_; rintro x w4 ⟨rfl, hx4⟩
  go_wp2_with fail
  go_ret2
  exact ⟨rfl, hws.trans hx4⟩

set_option maxHeartbeats 4000000 in
set_option maxRecDepth 100000 in
theorem refOldSpElse (e : Ent) (ok : e.Ok) (A S : Nat → Int) (w : World) (hp : IsPieces w (.slice e.pa e.pn e.pc) e.pn A S) (d : Int) (hd : d = 1 ∨ d = 2) (hmem : memB e.kd e.md e.ui e.gi e.sz e.ts e.tn e.ma e.mi e.nm e.lk e.us e.gr e.dt e.pn A S = true) (_hdt : e.dt.size ≤ 4009) (h53 : (e.kd == 53) = false) (hsp : spB e.sz e.dt e.pn = true) :
    Calls Tryz.prog 17 #[.int .i64 d, .agg #[.string e.nm, .int .u8 e.kd, .int .i64 e.md, .int .i64 e.ui, .int .i64 e.gi, .int .i64 e.sz, .int .i64 e.ts, .int .i64 e.tn, .string e.lk, .string e.us, .string e.gr, .int .i64 e.ma, .int .i64 e.mi, .string e.dt, .slice e.pa e.pn e.pc]] w fun x w' => x = .returned (.tuple #[.string ⟨#[]⟩, .int .i64 2]) ∧ Ext w w' := by
  have mo := memOk hmem
  have h6 := ok.pn
  have hnm := mo.nm
  have htp := mo.tn0
  have c0 := fun w => within_rng d 1 4 w
  rw [show rngB d 1 4 = true by unfold rngB; rcases hd with rfl | rfl <;> decide] at c0
  have C0 := Lib.hid c0
  have c1 := fun W (hE : Ext w W) => entRight_any e ok A S W (hp.ext hE)
  rw [hmem] at c1
  have C1 := Lib.hid c1
  have c3 := fun w => refSparse_any e ok w
  rw [hsp] at c3
  have C3 := Lib.hid c3
  have d3 : (d == 3) = false := by simp; omega
  have d4 : (d == 4) = false := by simp; omega
  clear hp hmem mo c0 c1 c3 hsp hd htp
  go_enter Tryz.func17, Tryz.ntmps17
  go_wp2_with ((with_reducible refine (C0.out _).mono ?_); rintro x w0 ⟨rfl, rfl⟩)
  refine (C1.out _ ((Ext.refl _).alloc _)).mono ?_; rintro x w1 ⟨rfl, hx1⟩
  obtain ⟨⟨g10, g11, g12, g13, g14, g15, g16, g17, g18, g19, g110, g111, g112, g113, g114⟩, gl1⟩ := ent_box e hx1
  go_wp2_with fail
  refine (C3.out _).mono ?_; rintro x w2 ⟨rfl, hx2⟩
  have hy2 := (hx1.alloc _).trans hx2
  have hw2 := Ext.trans ((Ext.refl w).alloc _) hy2
  obtain ⟨⟨g20, g21, g22, g23, g24, g25, g26, g27, g28, g29, g210, g211, g212, g213, g214⟩, gl2⟩ := ent_box e hy2
  obtain ⟨⟨r20, r21, r22, r23, r24, r25, r26, r27, r28, r29, r210, r211, r212⟩, rf2, rl2⟩ := raw_box hx2
  go_wp2_with fail
  go_ret2
  exact ⟨rfl, hw2⟩

set_option maxHeartbeats 4000000 in
set_option maxRecDepth 100000 in
theorem refOldTnElse (e : Ent) (ok : e.Ok) (A S : Nat → Int) (w : World) (hp : IsPieces w (.slice e.pa e.pn e.pc) e.pn A S) (d : Int) (hd : d = 1 ∨ d = 2) (hmem : memB e.kd e.md e.ui e.gi e.sz e.ts e.tn e.ma e.mi e.nm e.lk e.us e.gr e.dt e.pn A S = true) (_hdt : e.dt.size ≤ 4009) (h53 : (e.kd == 53) = false) (hsp : spB e.sz e.dt e.pn = false) (htn : (e.tn == 0) = false) :
    Calls Tryz.prog 17 #[.int .i64 d, .agg #[.string e.nm, .int .u8 e.kd, .int .i64 e.md, .int .i64 e.ui, .int .i64 e.gi, .int .i64 e.sz, .int .i64 e.ts, .int .i64 e.tn, .string e.lk, .string e.us, .string e.gr, .int .i64 e.ma, .int .i64 e.mi, .string e.dt, .slice e.pa e.pn e.pc]] w fun x w' => x = .returned (.tuple #[.string ⟨#[]⟩, .int .i64 2]) ∧ Ext w w' := by
  have mo := memOk hmem
  have h6 := ok.pn
  have hnm := mo.nm
  have htp := mo.tn0
  have c0 := fun w => within_rng d 1 4 w
  rw [show rngB d 1 4 = true by unfold rngB; rcases hd with rfl | rfl <;> decide] at c0
  have C0 := Lib.hid c0
  have c1 := fun W (hE : Ext w W) => entRight_any e ok A S W (hp.ext hE)
  rw [hmem] at c1
  have C1 := Lib.hid c1
  have c3 := fun w => refSparse_any e ok w
  rw [hsp] at c3
  have C3 := Lib.hid c3
  have d3 : (d == 3) = false := by simp; omega
  have d4 : (d == 4) = false := by simp; omega
  have qn : decide (0 < e.tn) = true := decide_eq_true (by simp at htn; omega)
  clear htn
  clear hp hmem mo c0 c1 c3 hsp hd htp
  go_enter Tryz.func17, Tryz.ntmps17
  go_wp2_with ((with_reducible refine (C0.out _).mono ?_); rintro x w0 ⟨rfl, rfl⟩)
  refine (C1.out _ ((Ext.refl _).alloc _)).mono ?_; rintro x w1 ⟨rfl, hx1⟩
  obtain ⟨⟨g10, g11, g12, g13, g14, g15, g16, g17, g18, g19, g110, g111, g112, g113, g114⟩, gl1⟩ := ent_box e hx1
  go_wp2_with fail
  refine (C3.out _).mono ?_; rintro x w2 ⟨rfl, hx2⟩
  have hy2 := (hx1.alloc _).trans hx2
  have hw2 := Ext.trans ((Ext.refl w).alloc _) hy2
  obtain ⟨⟨g20, g21, g22, g23, g24, g25, g26, g27, g28, g29, g210, g211, g212, g213, g214⟩, gl2⟩ := ent_box e hy2
  obtain ⟨⟨r20, r21, r22, r23, r24, r25, r26, r27, r28, r29, r210, r211, r212⟩, rf2, rl2⟩ := raw_box hx2
  go_wp2_with fail
  go_ret2
  exact ⟨rfl, hw2⟩

set_option maxHeartbeats 4000000 in
set_option maxRecDepth 100000 in
theorem refOldGood2Else (e : Ent) (ok : e.Ok) (A S : Nat → Int) (w : World) (hp : IsPieces w (.slice e.pa e.pn e.pc) e.pn A S) (d : Int) (hd : d = 1 ∨ d = 2) (hmem : memB e.kd e.md e.ui e.gi e.sz e.ts e.tn e.ma e.mi e.nm e.lk e.us e.gr e.dt e.pn A S = true) (_hdt : e.dt.size ≤ 4009) (h53 : (e.kd == 53) = false) (hsp : spB e.sz e.dt e.pn = false) (htn : (e.tn == 0) = true) (s : ByteArray) (k : Int) (h2 : d = 2)
    (c6 : ∀ w, HasMax w → Calls Tryz.prog 23 #[.int .i64 2, .agg #[.string ⟨#[]⟩, .string ⟨#[]⟩, .string e.us, .string e.gr, .string ⟨#[]⟩, .int .u8 e.kd, .int .i64 e.md, .int .i64 e.ui, .int .i64 e.gi, .int .i64 (e.dt.size : Int), .int .i64 e.ts, .int .i64 e.ma, .int .i64 e.mi], .string e.nm, .string e.lk, .string e.dt] w fun e w' => e = .returned (.tuple #[.string s, .int .i64 k]) ∧ Ext w w') (hm : HasMax w) :
    Calls Tryz.prog 17 #[.int .i64 d, .agg #[.string e.nm, .int .u8 e.kd, .int .i64 e.md, .int .i64 e.ui, .int .i64 e.gi, .int .i64 e.sz, .int .i64 e.ts, .int .i64 e.tn, .string e.lk, .string e.us, .string e.gr, .int .i64 e.ma, .int .i64 e.mi, .string e.dt, .slice e.pa e.pn e.pc]] w fun x w' => x = .returned (.tuple #[.string s, .int .i64 k]) ∧ Ext w w' := by
  have mo := memOk hmem
  have h6 := ok.pn
  have hnm := mo.nm
  have htp := mo.tn0
  have c0 := fun w => within_rng d 1 4 w
  rw [show rngB d 1 4 = true by unfold rngB; rcases hd with rfl | rfl <;> decide] at c0
  have C0 := Lib.hid c0
  have c1 := fun W (hE : Ext w W) => entRight_any e ok A S W (hp.ext hE)
  rw [hmem] at c1
  have C1 := Lib.hid c1
  have c3 := fun w => refSparse_any e ok w
  rw [hsp] at c3
  have C3 := Lib.hid c3
  have C6 := Lib.hid c6
  have qn : decide (0 < e.tn) = false := decide_eq_false (by simp at htn; omega)
  subst h2
  clear hp hmem mo c0 c1 c3 hsp hd htp htn c6
  go_enter Tryz.func17, Tryz.ntmps17
  go_wp2_with ((with_reducible refine (C0.out _).mono ?_); rintro x w0 ⟨rfl, rfl⟩)
  refine (C1.out _ ((Ext.refl _).alloc _)).mono ?_; rintro x w1 ⟨rfl, hx1⟩
  obtain ⟨⟨g10, g11, g12, g13, g14, g15, g16, g17, g18, g19, g110, g111, g112, g113, g114⟩, gl1⟩ := ent_box e hx1
  go_wp2_with fail
  refine (C3.out _).mono ?_; rintro x w2 ⟨rfl, hx2⟩
  have hy2 := (hx1.alloc _).trans hx2
  have hw2 := Ext.trans ((Ext.refl w).alloc _) hy2
  obtain ⟨⟨g20, g21, g22, g23, g24, g25, g26, g27, g28, g29, g210, g211, g212, g213, g214⟩, gl2⟩ := ent_box e hy2
  obtain ⟨⟨r20, r21, r22, r23, r24, r25, r26, r27, r28, r29, r210, r211, r212⟩, rf2, rl2⟩ := raw_box hx2
  go_wp2_with fail
  refine (C6.out _ (hm.ext hw2)).mono ?_; rintro x w4 ⟨rfl, hx4⟩
  go_wp2_with fail
  go_ret2
  exact ⟨rfl, hw2.trans hx4⟩

set_option maxHeartbeats 4000000 in
set_option maxRecDepth 100000 in
theorem refOldGood1Else (e : Ent) (ok : e.Ok) (A S : Nat → Int) (w : World) (hp : IsPieces w (.slice e.pa e.pn e.pc) e.pn A S) (d : Int) (hd : d = 1 ∨ d = 2) (hmem : memB e.kd e.md e.ui e.gi e.sz e.ts e.tn e.ma e.mi e.nm e.lk e.us e.gr e.dt e.pn A S = true) (_hdt : e.dt.size ≤ 4009) (h53 : (e.kd == 53) = false) (hsp : spB e.sz e.dt e.pn = false) (htn : (e.tn == 0) = true) (s : ByteArray) (k : Int) (h1 : d = 1) (J : Int) (hJ : Lib.indexByte (⟨#[51, 52, 54]⟩ : ByteArray).data.toList e.kd.toNat.toUInt8 = J) (hdv : decide (0 ≤ J) = false)
    (c6 : ∀ w, HasMax w → Calls Tryz.prog 23 #[.int .i64 1, .agg #[.string ⟨#[]⟩, .string ⟨#[]⟩, .string e.us, .string e.gr, .string ⟨#[]⟩, .int .u8 e.kd, .int .i64 e.md, .int .i64 e.ui, .int .i64 e.gi, .int .i64 (e.dt.size : Int), .int .i64 e.ts, .int .i64 e.ma, .int .i64 e.mi], .string e.nm, .string e.lk, .string e.dt] w fun e w' => e = .returned (.tuple #[.string s, .int .i64 k]) ∧ Ext w w') (hm : HasMax w) :
    Calls Tryz.prog 17 #[.int .i64 d, .agg #[.string e.nm, .int .u8 e.kd, .int .i64 e.md, .int .i64 e.ui, .int .i64 e.gi, .int .i64 e.sz, .int .i64 e.ts, .int .i64 e.tn, .string e.lk, .string e.us, .string e.gr, .int .i64 e.ma, .int .i64 e.mi, .string e.dt, .slice e.pa e.pn e.pc]] w fun x w' => x = .returned (.tuple #[.string s, .int .i64 k]) ∧ Ext w w' := by
  have mo := memOk hmem
  have h6 := ok.pn
  have hnm := mo.nm
  have htp := mo.tn0
  have c0 := fun w => within_rng d 1 4 w
  rw [show rngB d 1 4 = true by unfold rngB; rcases hd with rfl | rfl <;> decide] at c0
  have C0 := Lib.hid c0
  have c1 := fun W (hE : Ext w W) => entRight_any e ok A S W (hp.ext hE)
  rw [hmem] at c1
  have C1 := Lib.hid c1
  have c3 := fun w => refSparse_any e ok w
  rw [hsp] at c3
  have C3 := Lib.hid c3
  have C6 := Lib.hid c6
  have C7 := Lib.hid (fun w => idxByte_e ⟨#[51, 52, 54]⟩ e.kd J hJ w)
  have qn : decide (0 < e.tn) = false := decide_eq_false (by simp at htn; omega)
  subst h1
  clear hp hmem mo c0 c1 c3 hsp hd htp htn c6 hJ
  go_enter Tryz.func17, Tryz.ntmps17
  go_wp2_with ((with_reducible refine (C0.out _).mono ?_); rintro x w0 ⟨rfl, rfl⟩)
  refine (C1.out _ ((Ext.refl _).alloc _)).mono ?_; rintro x w1 ⟨rfl, hx1⟩
  obtain ⟨⟨g10, g11, g12, g13, g14, g15, g16, g17, g18, g19, g110, g111, g112, g113, g114⟩, gl1⟩ := ent_box e hx1
  go_wp2_with fail
  refine (C3.out _).mono ?_; rintro x w2 ⟨rfl, hx2⟩
  have hy2 := (hx1.alloc _).trans hx2
  have hw2 := Ext.trans ((Ext.refl w).alloc _) hy2
  obtain ⟨⟨g20, g21, g22, g23, g24, g25, g26, g27, g28, g29, g210, g211, g212, g213, g214⟩, gl2⟩ := ent_box e hy2
  obtain ⟨⟨r20, r21, r22, r23, r24, r25, r26, r27, r28, r29, r210, r211, r212⟩, rf2, rl2⟩ := raw_box hx2
  go_wp2_with ((with_reducible refine (C7.out _).mono ?_); rintro x w3 ⟨rfl, rfl⟩)
  refine (C6.out _ (hm.ext hw2)).mono ?_; rintro x w4 ⟨rfl, hx4⟩
  go_wp2_with fail
  go_ret2
  exact ⟨rfl, hw2.trans hx4⟩

set_option maxHeartbeats 4000000 in
set_option maxRecDepth 100000 in
theorem refOldDev (e : Ent) (ok : e.Ok) (A S : Nat → Int) (w : World) (hp : IsPieces w (.slice e.pa e.pn e.pc) e.pn A S) (d : Int) (hd : d = 1 ∨ d = 2) (hmem : memB e.kd e.md e.ui e.gi e.sz e.ts e.tn e.ma e.mi e.nm e.lk e.us e.gr e.dt e.pn A S = true) (_hdt : e.dt.size ≤ 4009) (hsp : spB e.sz e.dt e.pn = false) (htn : (e.tn == 0) = true) (h53 : (e.kd == 53) = false) (h1 : d = 1) (J : Int) (hJ : Lib.indexByte (⟨#[51, 52, 54]⟩ : ByteArray).data.toList e.kd.toNat.toUInt8 = J) (hdv : decide (0 ≤ J) = true) :
    Calls Tryz.prog 17 #[.int .i64 d, .agg #[.string e.nm, .int .u8 e.kd, .int .i64 e.md, .int .i64 e.ui, .int .i64 e.gi, .int .i64 e.sz, .int .i64 e.ts, .int .i64 e.tn, .string e.lk, .string e.us, .string e.gr, .int .i64 e.ma, .int .i64 e.mi, .string e.dt, .slice e.pa e.pn e.pc]] w fun x w' => x = .returned (.tuple #[.string ⟨#[]⟩, .int .i64 2]) ∧ Ext w w' := by
  have mo := memOk hmem
  have h6 := ok.pn
  have hnm := mo.nm
  have htp := mo.tn0
  have c0 := fun w => within_rng d 1 4 w
  rw [show rngB d 1 4 = true by unfold rngB; rcases hd with rfl | rfl <;> decide] at c0
  have C0 := Lib.hid c0
  have c1 := fun W (hE : Ext w W) => entRight_any e ok A S W (hp.ext hE)
  rw [hmem] at c1
  have C1 := Lib.hid c1
  have c3 := fun w => refSparse_any e ok w
  rw [hsp] at c3
  have C3 := Lib.hid c3
  have C7 := Lib.hid (fun w => idxByte_e ⟨#[51, 52, 54]⟩ e.kd J hJ w)
  have qn : decide (0 < e.tn) = false := decide_eq_false (by simp at htn; omega)
  subst h1
  clear hp hmem mo c0 c1 c3 hsp hd htp htn hJ
  go_enter Tryz.func17, Tryz.ntmps17
  go_wp2_with ((with_reducible refine (C0.out _).mono ?_); rintro x w0 ⟨rfl, rfl⟩)
  refine (C1.out _ ((Ext.refl _).alloc _)).mono ?_; rintro x w1 ⟨rfl, hx1⟩
  obtain ⟨⟨g10, g11, g12, g13, g14, g15, g16, g17, g18, g19, g110, g111, g112, g113, g114⟩, gl1⟩ := ent_box e hx1
  go_wp2_with fail
  refine (C3.out _).mono ?_; rintro x w2 ⟨rfl, hx2⟩
  have hy2 := (hx1.alloc _).trans hx2
  have hw2 := Ext.trans ((Ext.refl w).alloc _) hy2
  obtain ⟨⟨g20, g21, g22, g23, g24, g25, g26, g27, g28, g29, g210, g211, g212, g213, g214⟩, gl2⟩ := ent_box e hy2
  obtain ⟨⟨r20, r21, r22, r23, r24, r25, r26, r27, r28, r29, r210, r211, r212⟩, rf2, rl2⟩ := raw_box hx2
  go_wp2_with ((with_reducible refine (C7.out _).mono ?_); rintro x w3 ⟨rfl, rfl⟩)
  go_ret2
  exact ⟨rfl, hw2⟩

set_option maxRecDepth 100000 in
theorem refOld_any (e : Ent) (ok : e.Ok) (A S : Nat → Int) (w : World) (hp : IsPieces w (.slice e.pa e.pn e.pc) e.pn A S) (d : Int) (hd : d = 1 ∨ d = 2) (hmem : memB e.kd e.md e.ui e.gi e.sz e.ts e.tn e.ma e.mi e.nm e.lk e.us e.gr e.dt e.pn A S = true) (hdt : e.dt.size ≤ 4009) (h : ByteArray) (k : Int) (HW : Wrn d e.us e.gr (kdO d e.kd) e.md e.ui e.gi e.dt.size e.ts e.ma e.mi (namB e.kd e.nm) e.lk h k) (hm : HasMax w) :
    Calls Tryz.prog 17 #[.int .i64 d, .agg #[.string e.nm, .int .u8 e.kd, .int .i64 e.md, .int .i64 e.ui, .int .i64 e.gi, .int .i64 e.sz, .int .i64 e.ts, .int .i64 e.tn, .string e.lk, .string e.us, .string e.gr, .int .i64 e.ma, .int .i64 e.mi, .string e.dt, .slice e.pa e.pn e.pc]] w fun x w' => x = .returned (.tuple #[.string (oldV d e k h), .int .i64 (oldE d e k)]) ∧ Ext w w' := by
  have mo := memOk hmem
  have c6 := (HW.2 e.dt (by omega)).2
  have hJd := ix346 e.kd mo.kd0 mo.kd1
  have hdV : badO d e = (spB e.sz e.dt e.pn || !(e.tn == 0) || (d == 1 && ((e.kd == 51 || e.kd == 52) || e.kd == 54))) := rfl
  have hkO : kdO d e.kd = if d = 1 ∧ e.kd = 53 then 48 else e.kd := rfl
  rw [show oldV d e k h = if badO d e then ⟨#[]⟩ else wrnV k h e.dt from rfl, show oldE d e k = if badO d e then 2 else k from rfl]
  rw [← hJd] at hdV
  rw [hkO] at c6
  cases hsp : spB e.sz e.dt e.pn with
  | true =>
    rw [show badO d e = true by rw [hdV, hsp]; rfl, if_pos rfl, if_pos rfl]
    cases h53 : (e.kd == 53) with
    | true => exact refOldSpDir e ok A S w hp d hd hmem hdt h53 hsp
    | false => exact refOldSpElse e ok A S w hp d hd hmem hdt h53 hsp
  | false =>
    cases htn : (e.tn == 0) with
    | false =>
      rw [show badO d e = true by rw [hdV, hsp, htn]; rfl, if_pos rfl, if_pos rfl]
      cases h53 : (e.kd == 53) with
      | true => exact refOldTnDir e ok A S w hp d hd hmem hdt h53 hsp htn
      | false => exact refOldTnElse e ok A S w hp d hd hmem hdt h53 hsp htn
    | true =>
      rcases hd with rfl | rfl
      · cases hdv : decide (0 ≤ Lib.indexByte [51, 52, 54] e.kd.toNat.toUInt8) with
        | true =>
          have h53 : (e.kd == 53) = false := by
            rw [hdv] at hJd
            cases hq : (e.kd == 53) with
            | false => rfl
            | true =>
              have hq' : e.kd = 53 := by simpa using hq
              rw [hq'] at hJd
              exact absurd hJd (by decide)
          rw [show badO 1 e = true by rw [hdV, hsp, htn, hdv]; rfl, if_pos rfl, if_pos rfl]
          exact refOldDev e ok A S w hp 1 (.inl rfl) hmem hdt hsp htn h53 rfl _ rfl hdv
        | false =>
          rw [show badO 1 e = false by rw [hdV, hsp, htn, hdv]; rfl, if_neg (by decide), if_neg (by decide)]
          by_cases h : e.kd = 53
          · rw [if_pos ⟨rfl, h⟩, show namB e.kd e.nm = e.nm ++ ⟨#[47]⟩ by rw [h, namB_dir]] at c6
            exact refOldGood1Dir e ok A S w hp 1 (.inl rfl) hmem hdt (by simp [h]) hsp htn _ _ rfl _ rfl hdv c6 hm
          · rw [if_neg (fun x => h x.2), namB_else _ h] at c6
            exact refOldGood1Else e ok A S w hp 1 (.inl rfl) hmem hdt (by simp [h]) hsp htn _ _ rfl _ rfl hdv c6 hm
      · rw [show badO 2 e = false by rw [hdV, hsp, htn]; rfl, if_neg (by decide), if_neg (by decide)]
        rw [if_neg (by omega)] at c6
        by_cases h : e.kd = 53
        · rw [show namB e.kd e.nm = e.nm ++ ⟨#[47]⟩ by rw [h, namB_dir]] at c6
          exact refOldGood2Dir e ok A S w hp 2 (.inr rfl) hmem hdt (by simp [h]) hsp htn _ _ rfl c6 hm
        · rw [namB_else _ h] at c6
          exact refOldGood2Else e ok A S w hp 2 (.inr rfl) hmem hdt (by simp [h]) hsp htn _ _ rfl c6 hm
end Go.Proofs.YtnbcbipigiopbaaGreatDoor
