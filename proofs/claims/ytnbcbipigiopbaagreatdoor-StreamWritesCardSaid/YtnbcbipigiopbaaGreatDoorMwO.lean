/-
  member.Write and the reference's EntryWrite in V7 and Ustar. No conditions but the arguments' bounds.
-/
import Derived.Test.YtnbcbipigiopbaaGreatDoorPkJ
import Derived.Test.YtnbcbipigiopbaaGreatDoorPkK
namespace Go.Proofs.YtnbcbipigiopbaaGreatDoor
open Go.RowKit Go.WideShapes

/-- A header's fields in a block of its own: they stay. -/
theorem raw_box {us gr : ByteArray} {kd md ui gi sz tm ma mi : Int} {t : TypeId} {w W : World} (h : Ext (w.alloc (.cells #[.string ⟨#[]⟩, .string ⟨#[]⟩, .string us, .string gr, .string ⟨#[]⟩, .int .u8 kd, .int .i64 md, .int .i64 ui, .int .i64 gi, .int .i64 sz, .int .i64 tm, .int .i64 ma, .int .i64 mi] t)) W) :
    (W.cell? ⟨w.heap.size, 0, none⟩ = some (.string ⟨#[]⟩) ∧ W.cell? ⟨w.heap.size, 1, none⟩ = some (.string ⟨#[]⟩) ∧ W.cell? ⟨w.heap.size, 2, none⟩ = some (.string us) ∧ W.cell? ⟨w.heap.size, 3, none⟩ = some (.string gr) ∧ W.cell? ⟨w.heap.size, 4, none⟩ = some (.string ⟨#[]⟩) ∧ W.cell? ⟨w.heap.size, 5, none⟩ = some (.int .u8 kd) ∧ W.cell? ⟨w.heap.size, 6, none⟩ = some (.int .i64 md) ∧ W.cell? ⟨w.heap.size, 7, none⟩ = some (.int .i64 ui) ∧ W.cell? ⟨w.heap.size, 8, none⟩ = some (.int .i64 gi) ∧
      W.cell? ⟨w.heap.size, 9, none⟩ = some (.int .i64 sz) ∧ W.cell? ⟨w.heap.size, 10, none⟩ = some (.int .i64 tm) ∧ W.cell? ⟨w.heap.size, 11, none⟩ = some (.int .i64 ma) ∧ W.cell? ⟨w.heap.size, 12, none⟩ = some (.int .i64 mi)) ∧ W.frozen? ⟨w.heap.size, 5, none⟩ = false ∧ w.heap.size < W.heap.size := by
  have hc : ∀ (j : Nat) (v : Value), (#[.string ⟨#[]⟩, .string ⟨#[]⟩, .string us, .string gr, .string ⟨#[]⟩, .int .u8 kd, .int .i64 md, .int .i64 ui, .int .i64 gi, .int .i64 sz, .int .i64 tm, .int .i64 ma, .int .i64 mi] : Array Value)[j]? = some v → W.cell? ⟨w.heap.size, j, none⟩ = some v := fun j v hj => h.cell (by simpa using hj)
  exact ⟨⟨hc 0 _ rfl, hc 1 _ rfl, hc 2 _ rfl, hc 3 _ rfl, hc 4 _ rfl, hc 5 _ rfl, hc 6 _ rfl, hc 7 _ rfl, hc 8 _ rfl, hc 9 _ rfl, hc 10 _ rfl, hc 11 _ rfl, hc 12 _ rfl⟩, by rw [h.frozens _ _ (by simp)]; simp, World.block_lt_of_cell? W _ (hc 0 _ rfl)⟩

/-- What V7 and Ustar do not have. -/
def badO (d : Int) (e : Ent) : Bool := spB e.sz e.dt e.pn || !(e.tn == 0) || (d == 1 && ((e.kd == 51 || e.kd == 52) || e.kd == 54))
def kdO (d kd : Int) : Int := if d = 1 ∧ kd = 53 then 48 else kd
def oldE (d : Int) (e : Ent) (k : Int) : Int := if badO d e then 2 else k
def oldV (d : Int) (e : Ent) (k : Int) (h : ByteArray) : ByteArray := if badO d e then ⟨#[]⟩ else wrnV k h e.dt

set_option maxHeartbeats 8000000 in
set_option maxRecDepth 100000 in
theorem writeOld_any (e : Ent) (ok : e.Ok) (A S : Nat → Int) (w : World) (hp : IsPieces w (.slice e.pa e.pn e.pc) e.pn A S) (d : Int) (hd : d = 1 ∨ d = 2) (hmem : memB e.kd e.md e.ui e.gi e.sz e.ts e.tn e.ma e.mi e.nm e.lk e.us e.gr e.dt e.pn A S = true)
    (hdt : e.dt.size ≤ 4009) (h : ByteArray) (k : Int) (HW : Wrn d e.us e.gr (kdO d e.kd) e.md e.ui e.gi e.dt.size e.ts e.ma e.mi (namB e.kd e.nm) e.lk h k) (hm : HasMax w) :
    Calls Tryz.prog 18 #[.int .i64 d, .agg #[.string e.nm, .int .u8 e.kd, .int .i64 e.md, .int .i64 e.ui, .int .i64 e.gi, .int .i64 e.sz, .int .i64 e.ts, .int .i64 e.tn, .string e.lk, .string e.us, .string e.gr, .int .i64 e.ma, .int .i64 e.mi, .string e.dt, .slice e.pa e.pn e.pc]] w fun x w' => x = .returned (.tuple #[.string (oldV d e k h), errOf (oldE d e k)]) ∧ Ext w w' := by
  have h6 := ok.pn
  have c1 := fun W (hE : Ext w W) => memRight_any e ok A S W (hp.ext hE)
  rw [hmem] at c1
  have C1 := Lib.hid c1
  have C2 := Lib.hid (fun w => memPlain_any e ok w)
  have c3 := fun w => sparse_any e ok w
  have C4 := Lib.hid (fun w => isDevice_same w e.kd)
  have C5 := Lib.hid (fun w => memNamed_any e ok w)
  have c6 := (HW.2 e.dt (by omega)).1
  have hdV : Hid (badO d e = (spB e.sz e.dt e.pn || !(e.tn == 0) || (d == 1 && ((e.kd == 51 || e.kd == 52) || e.kd == 54)))) := Lib.hid rfl
  have hoV : Hid (oldV d e k h = if badO d e then ⟨#[]⟩ else wrnV k h e.dt) := Lib.hid rfl
  have hoE : Hid (oldE d e k = if badO d e then 2 else k) := Lib.hid rfl
  have hkO : Hid (kdO d e.kd = if d = 1 ∧ e.kd = 53 then 48 else e.kd) := Lib.hid rfl
  rw [hoV.out, hoE.out]
  generalize badO d e = bad at *
  generalize namB e.kd e.nm = nm at *
  generalize wrnV k h e.dt = V at *
  generalize kdO d e.kd = kO at *
  clear hp c1 hmem HW hoV hoE
  cases hsp : spB e.sz e.dt e.pn with
  | true =>
    rw [hsp] at hdV c3
    have C3 := Lib.hid c3
    have hb : bad = true := by rw [hdV.out]; rfl
    rw [hb, if_pos rfl, if_pos rfl, errOf_ne (by decide)]
    clear hsp c3 c6 hdV hkO
    rcases hd with rfl | rfl
    all_goals
      as_aux_lemma =>
        go_enter Tryz.func18, Tryz.ntmps18
        go_wp2_with fail
        refine (C1.out _ ((Ext.refl _).alloc _)).mono ?_; rintro x w1 ⟨rfl, hx1⟩
        obtain ⟨⟨g0, g1, g2, g3, g4, g5, g6, g7, g8, g9, g10, g11, g12, g13, g14⟩, gl⟩ := ent_box e hx1
        go_wp2_with fail
        refine (C2.out _).mono ?_; rintro x w2 ⟨rfl, hx2⟩
        have hy2 := hx1.trans hx2
        obtain ⟨⟨g20, g21, g22, g23, g24, g25, g26, g27, g28, g29, g210, g211, g212, g213, g214⟩, gl2⟩ := ent_box e hy2
        go_wp2_with fail
        refine (C3.out _).mono ?_; rintro x w3 ⟨rfl, hx3⟩
        go_wp2_with fail
        go_ret2
        exact ⟨rfl, Ext.trans ((Ext.refl w).alloc _) ((hy2.alloc _).trans hx3)⟩
  | false =>
    rw [hsp] at hdV c3
    have C3 := Lib.hid c3
    clear hsp c3
    cases htn : (e.tn == 0) with
    | false =>
      rw [htn] at hdV
      have hb : bad = true := by rw [hdV.out]; rfl
      rw [hb, if_pos rfl, if_pos rfl, errOf_ne (by decide)]
      have qn : (e.tn != 0) = true := by simp only [bne, htn]; rfl
      clear c6 hdV hkO
      rcases hd with rfl | rfl
      all_goals
        as_aux_lemma =>
          go_enter Tryz.func18, Tryz.ntmps18
          go_wp2_with fail
          refine (C1.out _ ((Ext.refl _).alloc _)).mono ?_; rintro x w1 ⟨rfl, hx1⟩
          obtain ⟨⟨g0, g1, g2, g3, g4, g5, g6, g7, g8, g9, g10, g11, g12, g13, g14⟩, gl⟩ := ent_box e hx1
          go_wp2_with fail
          refine (C2.out _).mono ?_; rintro x w2 ⟨rfl, hx2⟩
          have hy2 := hx1.trans hx2
          obtain ⟨⟨g20, g21, g22, g23, g24, g25, g26, g27, g28, g29, g210, g211, g212, g213, g214⟩, gl2⟩ := ent_box e hy2
          go_wp2_with fail
          refine (C3.out _).mono ?_; rintro x w3 ⟨rfl, hx3⟩
          have hy3 := (hy2.alloc _).trans hx3
          obtain ⟨⟨g30, g31, g32, g33, g34, g35, g36, g37, g38, g39, g310, g311, g312, g313, g314⟩, gl3⟩ := ent_box e hy3
          go_wp2_with fail
          go_ret2
          exact ⟨rfl, Ext.trans ((Ext.refl w).alloc _) hy3⟩
    | true =>
      rw [htn] at hdV
      have qn : (e.tn != 0) = false := by simp only [bne, htn]; rfl
      rcases hd with rfl | rfl
      · cases hdv : (e.kd == 51 || e.kd == 52) with
        | true =>
          rw [hdv] at hdV C4
          have hb : bad = true := by rw [hdV.out]; rfl
          rw [hb, if_pos rfl, if_pos rfl, errOf_ne (by decide)]
          clear c6 hdV hkO hdv
          as_aux_lemma =>
            go_enter Tryz.func18, Tryz.ntmps18
            go_wp2_with fail
            refine (C1.out _ ((Ext.refl _).alloc _)).mono ?_; rintro x w1 ⟨rfl, hx1⟩
            obtain ⟨⟨g0, g1, g2, g3, g4, g5, g6, g7, g8, g9, g10, g11, g12, g13, g14⟩, gl⟩ := ent_box e hx1
            go_wp2_with fail
            refine (C2.out _).mono ?_; rintro x w2 ⟨rfl, hx2⟩
            have hy2 := hx1.trans hx2
            obtain ⟨⟨g20, g21, g22, g23, g24, g25, g26, g27, g28, g29, g210, g211, g212, g213, g214⟩, gl2⟩ := ent_box e hy2
            go_wp2_with fail
            refine (C3.out _).mono ?_; rintro x w3 ⟨rfl, hx3⟩
            have hy3 := (hy2.alloc _).trans hx3
            obtain ⟨⟨g30, g31, g32, g33, g34, g35, g36, g37, g38, g39, g310, g311, g312, g313, g314⟩, gl3⟩ := ent_box e hy3
            go_wp2_with ((with_reducible refine (C4.out _).mono ?_); rintro x w4 ⟨rfl, rfl⟩)
            go_ret2
            exact ⟨rfl, Ext.trans ((Ext.refl w).alloc _) hy3⟩
        | false =>
          rw [hdv] at hdV C4
          cases h54 : (e.kd == 54) with
          | true =>
            rw [h54] at hdV
            have hb : bad = true := by rw [hdV.out]; rfl
            rw [hb, if_pos rfl, if_pos rfl, errOf_ne (by decide)]
            clear c6 hdV hkO hdv
            as_aux_lemma =>
              go_enter Tryz.func18, Tryz.ntmps18
              go_wp2_with fail
              refine (C1.out _ ((Ext.refl _).alloc _)).mono ?_; rintro x w1 ⟨rfl, hx1⟩
              obtain ⟨⟨g0, g1, g2, g3, g4, g5, g6, g7, g8, g9, g10, g11, g12, g13, g14⟩, gl⟩ := ent_box e hx1
              go_wp2_with fail
              refine (C2.out _).mono ?_; rintro x w2 ⟨rfl, hx2⟩
              have hy2 := hx1.trans hx2
              obtain ⟨⟨g20, g21, g22, g23, g24, g25, g26, g27, g28, g29, g210, g211, g212, g213, g214⟩, gl2⟩ := ent_box e hy2
              go_wp2_with fail
              refine (C3.out _).mono ?_; rintro x w3 ⟨rfl, hx3⟩
              have hy3 := (hy2.alloc _).trans hx3
              obtain ⟨⟨g30, g31, g32, g33, g34, g35, g36, g37, g38, g39, g310, g311, g312, g313, g314⟩, gl3⟩ := ent_box e hy3
              go_wp2_with ((with_reducible refine (C4.out _).mono ?_); rintro x w4 ⟨rfl, rfl⟩)
              go_ret2
              exact ⟨rfl, Ext.trans ((Ext.refl w).alloc _) hy3⟩
          | false =>
            rw [h54] at hdV
            have hb : bad = false := by rw [hdV.out]; rfl
            rw [hb, if_neg (by decide), if_neg (by decide)]
            by_cases h53 : e.kd = 53
            · have e53 : (e.kd == 53) = true := by simp [h53]
              rw [hkO.out, if_pos ⟨rfl, h53⟩] at c6
              have C6 := Lib.hid c6
              clear c6 hdV hkO hdv h53
              as_aux_lemma =>
                go_enter Tryz.func18, Tryz.ntmps18
                go_wp2_with fail
                refine (C1.out _ ((Ext.refl _).alloc _)).mono ?_; rintro x w1 ⟨rfl, hx1⟩
                obtain ⟨⟨g0, g1, g2, g3, g4, g5, g6, g7, g8, g9, g10, g11, g12, g13, g14⟩, gl⟩ := ent_box e hx1
                go_wp2_with fail
                refine (C2.out _).mono ?_; rintro x w2 ⟨rfl, hx2⟩
                have hy2 := hx1.trans hx2
                obtain ⟨⟨g20, g21, g22, g23, g24, g25, g26, g27, g28, g29, g210, g211, g212, g213, g214⟩, gl2⟩ := ent_box e hy2
                go_wp2_with fail
                refine (C3.out _).mono ?_; rintro x w3 ⟨rfl, hx3⟩
                have hy3 := (hy2.alloc _).trans hx3
                obtain ⟨⟨g30, g31, g32, g33, g34, g35, g36, g37, g38, g39, g310, g311, g312, g313, g314⟩, gl3⟩ := ent_box e hy3
                obtain ⟨⟨r0, r1, r2, r3, r4, r5, r6, r7, r8, r9, r10, r11, r12⟩, rf, rl⟩ := raw_box hx3
                go_wp2_with ((with_reducible refine (C4.out _).mono ?_); rintro x w4 ⟨rfl, rfl⟩)
                have hz3 : Ext w (w4.setCell ⟨w2.heap.size, 5, none⟩ (.int .u8 48)) := (Ext.trans ((Ext.refl w).alloc _) hy3).setCell (by have := hy2.size; simp at this; show w.heap.size ≤ w2.heap.size; omega) _
                refine wp_region_det (Stood _) (by kernel_rfl) (by kernel_rfl) (Stood.start _) ?_
                repeat (first
                  | (refine det_skip (by rfl) ?_; simp only [Act.put, List.setIfInBounds_toArray, List.set_cons_zero, List.set_cons_succ])
                  | (refine det_op (v := ?_) rfl (by rfl) (fun w' hS => ?_) ?_; rotate_left; (focus (obtain ⟨hcl, hxt⟩ := hS; go_wp2_with (first | ((with_reducible refine (C5.out _).mono ?_); rintro e w1 ⟨rfl, hx1⟩) | ((with_reducible refine (C6.out _ (hm.ext (hz3.trans hxt))).mono ?_); rintro e w1 ⟨rfl, hx1⟩)); (first | refine ⟨?_, rfl, hcl, hxt⟩ | refine ⟨?_, rfl, Stood.of (hxt.trans (by assumption))⟩); (first | (simp only [List.getElem?_toArray, List.getElem?_cons_succ, List.getElem?_cons_zero]; rfl) | rfl))); simp only [Act.put, List.setIfInBounds_toArray, List.set_cons_zero, List.set_cons_succ]))
                refine det_end ?_
                intro w5 hS
                have hx := hS.2
                clear hS
                go_wp2_with fail
                go_ret2
                exact ⟨rfl, hz3.trans hx⟩
            · have e53 : (e.kd == 53) = false := by simp [h53]
              rw [hkO.out, if_neg (fun h => h53 h.2)] at c6
              have C6 := Lib.hid c6
              clear c6 hdV hkO hdv h53
              as_aux_lemma =>
                go_enter Tryz.func18, Tryz.ntmps18
                go_wp2_with fail
                refine (C1.out _ ((Ext.refl _).alloc _)).mono ?_; rintro x w1 ⟨rfl, hx1⟩
                obtain ⟨⟨g0, g1, g2, g3, g4, g5, g6, g7, g8, g9, g10, g11, g12, g13, g14⟩, gl⟩ := ent_box e hx1
                go_wp2_with fail
                refine (C2.out _).mono ?_; rintro x w2 ⟨rfl, hx2⟩
                have hy2 := hx1.trans hx2
                obtain ⟨⟨g20, g21, g22, g23, g24, g25, g26, g27, g28, g29, g210, g211, g212, g213, g214⟩, gl2⟩ := ent_box e hy2
                go_wp2_with fail
                refine (C3.out _).mono ?_; rintro x w3 ⟨rfl, hx3⟩
                have hy3 := (hy2.alloc _).trans hx3
                obtain ⟨⟨g30, g31, g32, g33, g34, g35, g36, g37, g38, g39, g310, g311, g312, g313, g314⟩, gl3⟩ := ent_box e hy3
                obtain ⟨⟨r0, r1, r2, r3, r4, r5, r6, r7, r8, r9, r10, r11, r12⟩, rf, rl⟩ := raw_box hx3
                have hz3 := Ext.trans ((Ext.refl w).alloc _) hy3
                go_wp2_with ((with_reducible refine (C4.out _).mono ?_); rintro x w4 ⟨rfl, rfl⟩)
                refine wp_region_det (Stood _) (by kernel_rfl) (by kernel_rfl) (Stood.start _) ?_
                repeat (first
                  | (refine det_skip (by rfl) ?_; simp only [Act.put, List.setIfInBounds_toArray, List.set_cons_zero, List.set_cons_succ])
                  | (refine det_op (v := ?_) rfl (by rfl) (fun w' hS => ?_) ?_; rotate_left; (focus (obtain ⟨hcl, hxt⟩ := hS; go_wp2_with (first | ((with_reducible refine (C5.out _).mono ?_); rintro e w1 ⟨rfl, hx1⟩) | ((with_reducible refine (C6.out _ (hm.ext (hz3.trans hxt))).mono ?_); rintro e w1 ⟨rfl, hx1⟩)); (first | refine ⟨?_, rfl, hcl, hxt⟩ | refine ⟨?_, rfl, Stood.of (hxt.trans (by assumption))⟩); (first | (simp only [List.getElem?_toArray, List.getElem?_cons_succ, List.getElem?_cons_zero]; rfl) | rfl))); simp only [Act.put, List.setIfInBounds_toArray, List.set_cons_zero, List.set_cons_succ]))
                refine det_end ?_
                intro w5 hS
                have hx := hS.2
                clear hS
                go_wp2_with fail
                go_ret2
                exact ⟨rfl, hz3.trans hx⟩
      · have hb : bad = false := by rw [hdV.out]; rfl
        rw [hb, if_neg (by decide), if_neg (by decide)]
        rw [hkO.out, if_neg (by omega)] at c6
        have C6 := Lib.hid c6
        clear c6 hdV hkO
        as_aux_lemma =>
          go_enter Tryz.func18, Tryz.ntmps18
          go_wp2_with fail
          refine (C1.out _ ((Ext.refl _).alloc _)).mono ?_; rintro x w1 ⟨rfl, hx1⟩
          obtain ⟨⟨g0, g1, g2, g3, g4, g5, g6, g7, g8, g9, g10, g11, g12, g13, g14⟩, gl⟩ := ent_box e hx1
          go_wp2_with fail
          refine (C2.out _).mono ?_; rintro x w2 ⟨rfl, hx2⟩
          have hy2 := hx1.trans hx2
          obtain ⟨⟨g20, g21, g22, g23, g24, g25, g26, g27, g28, g29, g210, g211, g212, g213, g214⟩, gl2⟩ := ent_box e hy2
          go_wp2_with fail
          refine (C3.out _).mono ?_; rintro x w3 ⟨rfl, hx3⟩
          have hy3 := (hy2.alloc _).trans hx3
          obtain ⟨⟨g30, g31, g32, g33, g34, g35, g36, g37, g38, g39, g310, g311, g312, g313, g314⟩, gl3⟩ := ent_box e hy3
          obtain ⟨⟨r0, r1, r2, r3, r4, r5, r6, r7, r8, r9, r10, r11, r12⟩, rf, rl⟩ := raw_box hx3
          have hz3 := Ext.trans ((Ext.refl w).alloc _) hy3
          go_wp2_with fail
          refine wp_region_det (Stood _) (by kernel_rfl) (by kernel_rfl) (Stood.start _) ?_
          repeat (first
            | (refine det_skip (by rfl) ?_; simp only [Act.put, List.setIfInBounds_toArray, List.set_cons_zero, List.set_cons_succ])
            | (refine det_op (v := ?_) rfl (by rfl) (fun w' hS => ?_) ?_; rotate_left; (focus (obtain ⟨hcl, hxt⟩ := hS; go_wp2_with (first | ((with_reducible refine (C5.out _).mono ?_); rintro e w1 ⟨rfl, hx1⟩) | ((with_reducible refine (C6.out _ (hm.ext (hz3.trans hxt))).mono ?_); rintro e w1 ⟨rfl, hx1⟩)); (first | refine ⟨?_, rfl, hcl, hxt⟩ | refine ⟨?_, rfl, Stood.of (hxt.trans (by assumption))⟩); (first | (simp only [List.getElem?_toArray, List.getElem?_cons_succ, List.getElem?_cons_zero]; rfl) | rfl))); simp only [Act.put, List.setIfInBounds_toArray, List.set_cons_zero, List.set_cons_succ]))
          refine det_end ?_
          intro w5 hS
          have hx := hS.2
          clear hS
          go_wp2_with fail
          go_ret2
          exact ⟨rfl, hz3.trans hx⟩
end Go.Proofs.YtnbcbipigiopbaaGreatDoor
