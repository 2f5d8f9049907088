/-
  member.records and member.lines. No conditions but the arguments' bounds.
-/
import Derived.Test.YtnbcbipigiopbaaGreatDoorPkN
import Derived.Test.YtnbcbipigiopbaaGreatDoorMwO
import Derived.Test.YtnbcbipigiopbaaGreatDoorPkM
import Derived.Test.YtnbcbipigiopbaaGreatDoorText
import Derived.Test.YtnbcbipigiopbaaGreatDoorPkJ
namespace Go.Proofs.YtnbcbipigiopbaaGreatDoor
open Go.RowKit Go.WideShapes

/-- A list of pairs of the call's own in a variable's box. -/
def BoxPrs (w : World) (B : Nat) (l : List (ByteArray × ByteArray)) : Prop := ∃ v, Boxed w B 29 v ∧ w.ownsRow B 53 2 v l.length (cellsB l)
theorem BoxPrs.ext {w w' : World} {B : Nat} {l : List (ByteArray × ByteArray)} (h : BoxPrs w B l) (hE : Ext w w') : BoxPrs w' B l := by
  obtain ⟨v, h1, h2⟩ := h
  exact ⟨v, (hE.block B h1.lt).trans h1, ownP_ext h2 hE⟩
theorem BoxPrs.lt {w : World} {B : Nat} {l : List (ByteArray × ByteArray)} (h : BoxPrs w B l) : B < w.heap.size := by
  obtain ⟨v, h1, _⟩ := h
  exact h1.lt
set_option maxHeartbeats 4000000 in
set_option maxRecDepth 100000 in
theorem add_any (b : Bool) (k v : ByteArray) (B : Nat) (l : List (ByteArray × ByteArray)) (hl : l.length ≤ 20) (w : World) (hb : BoxPrs w B l) :
    Calls Tryz.prog 138 #[.bool b, .string k, .string v, .pointer (some ⟨B, 0, none⟩)] w fun x w' => x = .returned (.tuple #[]) ∧ BoxPrs w' B (addL b k v l) ∧ Below B w w' := by
  obtain ⟨i0, hi, hz0, hz1, hz2⟩ := info_parts infoPair
  cases b with
  | false =>
    go_enter Tryz.func138, Tryz.ntmps138
    go_wp2_with fail
    exact bodyPost_end (results_none rfl _ _ _) rfl ⟨rfl, hb, Below.refl _ _⟩
  | true =>
    obtain ⟨u, hbx, hown⟩ := hb
    have hc := hbx.cell
    have hf := hbx.frozen
    have hlt := hbx.lt
    have Hown := Lib.hid hown
    have Hbx := Lib.hid hbx
    clear hown hbx
    go_enter Tryz.func138, Tryz.ntmps138
    go_wp2_with (at_builtin; refine wpList_append_own _ rfl _ _ 29 rfl B 53 i0 (.agg #[.string ByteArray.empty, .string ByteArray.empty]) 2 32 Tryz.underlying29 hi hz0 hz1 hz2 rfl (by decide) _ _ _ rfl (Hown.out.alloc _) ⟨w.heap.size, 0, none⟩ 1 1 [.string k, .string v] rfl rfl ?c1 ?c2 ?c3 ?c4 ?c5 ?_)
    case c1 =>
      intro j u hj
      match j, hj with
      | 0, hj => simp at hj; subst hj; simp [Addr.add]
      | 1, hj => simp at hj; subst hj; simp [Addr.add]
    case c2 => intro u hu; simp at hu; rcases hu with rfl | rfl <;> rfl
    case c3 => unfold maxLen; omega
    case c4 => omega
    case c5 => simp; omega
    intro v' w3 hown3 hgrow _
    obtain ⟨oa, cp, rfl⟩ := ownP_open hown3
    obtain ⟨a1, a2, a3, _, a5⟩ := Hbx.out.appended (by decide) Hown.out (Nat.le_of_lt hlt) (Nat.le_refl _) hown3 hgrow
    have hc3 := a1.cell
    have hf3 := a1.frozen
    have hl3 := a1.lt
    have HA := Lib.hid (show BoxPrs (w3.setCell ⟨B, 0, none⟩ (.slice oa (l.length + 1) cp)) B (addL true k v l) from ⟨_, a2, by rw [addL_yes, cellsB_append, List.length_append]; exact a3⟩)
    clear a1 a2 a3 hown3 hgrow
    go_wp2_with fail
    exact bodyPost_end (results_none rfl _ _ _) rfl ⟨rfl, HA.out, a5⟩

theorem ext_below2 {w W1 W : World} {o : Obj} (h0 : Ext (w.alloc o) W1) (h : Below (w.heap.size + 1) W1 W) : Ext (w.alloc o) W := by
  show Below _ _ _
  rw [World.size_alloc]
  refine Below.trans ?_ h
  have h1 : Below (w.alloc o).heap.size (w.alloc o) W1 := h0
  rw [World.size_alloc] at h1
  exact h1
/-- A list of pairs comes back. -/
def GivesL (L : List (ByteArray × ByteArray)) (w : World) (x : Ending) (w' : World) : Prop := ∃ v, x = .returned v ∧ IsPrs w' v L ∧ Ext w w'
theorem memWithin_ext (w : World) (n low high : Int) : Calls Tryz.prog 85 #[.int .i64 n, .int .i64 low, .int .i64 high] w fun e w' => e = .returned (.bool (rngB n low high)) ∧ Ext w w' :=
  (memWithin_same w n low high).mono fun _ _ h => ⟨h.1, by rw [h.2]; exact Ext.refl _⟩
theorem mtB_yes {ts tn : Int} (h : (tn == 0) = false) : mtB ts tn = true := by unfold mtB; rw [h]; rfl
theorem mtB_no {ts tn : Int} (h : (tn == 0) = true) : mtB ts tn = !(rngB ts 0 8589934591) := by unfold mtB; rw [h]; rfl

set_option maxHeartbeats 8000000 in
set_option maxRecDepth 100000 in
theorem records_any (e : Ent) (ok : e.Ok) (A S : Nat → Int) (w : World) (mo : MemOk e A S) (ht : HasPow w) (fits : Bool) (na nb : ByteArray) (hv : splitV (namB e.kd e.nm) = .tuple #[.string na, .string nb, .bool fits]) :
    Calls Tryz.prog 95 #[.agg #[.string e.nm, .int .u8 e.kd, .int .i64 e.md, .int .i64 e.ui, .int .i64 e.gi, .int .i64 e.sz, .int .i64 e.ts, .int .i64 e.tn, .string e.lk, .string e.us, .string e.gr, .int .i64 e.ma, .int .i64 e.mi, .string e.dt, .slice e.pa e.pn e.pc]] w (GivesL (recsL (spB e.sz e.dt e.pn) fits e.sz e.gi e.ui e.ts e.tn e.lk (namB e.kd e.nm)) w) := by
  have h6 := ok.pn
  have hns := namB_size e.kd e.nm
  have C1 := Lib.hid (fun w => memNamed_any e ok w)
  have c2 := fun w => split_any (namB e.kd e.nm) (by have := mo.nm; omega) w
  rw [hv] at c2
  have C2 := Lib.hid c2
  have C3 := Lib.hid (fun w ht => text_any e.ts e.tn w ht)
  have C4 := Lib.hid (fun w => sparse_any e ok w)
  have C5 := Lib.hid (fun w ht => itoa_any e.sz (by have := mo.sz0; omega) (by have := mo.sz1; omega) w ht)
  have C6 := Lib.hid (fun w ht => itoa_any e.gi (by have := mo.gi0; omega) (by have := mo.gi1; omega) w ht)
  have C7 := Lib.hid (fun w ht => itoa_any e.ui (by have := mo.ui0; omega) (by have := mo.ui1; omega) w ht)
  have c8 := fun w => most_any 8 w
  have c9 := fun w => most_any 12 w
  rw [mostE.1] at c8
  rw [mostE.2] at c9
  have C8 := Lib.hid c8
  have C9 := Lib.hid c9
  have C10 := Lib.hid (fun w => memWithin_ext w e.ts 0 8589934591)
  generalize hsp : spB e.sz e.dt e.pn = sp at *
  clear hv c2 c8 c9 hsp
  generalize hnm : namB e.kd e.nm = nm at *
  obtain ⟨L1, h1⟩ : ∃ L, L = addL sp kMaj vOne [] := ⟨_, rfl⟩
  obtain ⟨L2, h2⟩ : ∃ L, L = addL sp kMin vZero L1 := ⟨_, rfl⟩
  obtain ⟨L3, h3⟩ : ∃ L, L = addL sp kReal (itB e.sz) L2 := ⟨_, rfl⟩
  obtain ⟨L4, h4⟩ : ∃ L, L = addL (decide (2097151 < e.gi)) kGid (itB e.gi) L3 := ⟨_, rfl⟩
  obtain ⟨L5, h5⟩ : ∃ L, L = addL (decide (100 < (e.lk.size : Int))) kLink e.lk L4 := ⟨_, rfl⟩
  obtain ⟨L6, h6'⟩ : ∃ L, L = addL (mtB e.ts e.tn) kMtime (textV e.ts e.tn) L5 := ⟨_, rfl⟩
  obtain ⟨L7, h7⟩ : ∃ L, L = addL (!fits) kPath nm L6 := ⟨_, rfl⟩
  obtain ⟨L8, h8⟩ : ∃ L, L = addL (decide (2097151 < e.ui)) kUid (itB e.ui) L7 := ⟨_, rfl⟩
  have hR : recsL sp fits e.sz e.gi e.ui e.ts e.tn e.lk nm = L8 := by rw [h8, h7, h6', h5, h4, h3, h2, h1]; rfl
  rw [hR]
  have n1 : L1.length ≤ 1 := by rw [h1]; exact addL_len _ _ _ _
  have n2 : L2.length ≤ 2 := by rw [h2]; exact Nat.le_trans (addL_len _ _ _ _) (Nat.succ_le_succ n1)
  have n3 : L3.length ≤ 3 := by rw [h3]; exact Nat.le_trans (addL_len _ _ _ _) (Nat.succ_le_succ n2)
  have n4 : L4.length ≤ 4 := by rw [h4]; exact Nat.le_trans (addL_len _ _ _ _) (Nat.succ_le_succ n3)
  have n5 : L5.length ≤ 5 := by rw [h5]; exact Nat.le_trans (addL_len _ _ _ _) (Nat.succ_le_succ n4)
  have n6 : L6.length ≤ 6 := by rw [h6']; exact Nat.le_trans (addL_len _ _ _ _) (Nat.succ_le_succ n5)
  have n7 : L7.length ≤ 7 := by rw [h7]; exact Nat.le_trans (addL_len _ _ _ _) (Nat.succ_le_succ n6)
  have A1 := Lib.hid (fun B w hb => add_any sp kMaj vOne B [] (Nat.zero_le _) w hb)
  have A2 := Lib.hid (fun B w hb => add_any sp kMin vZero B L1 (by omega) w hb)
  have A3 := Lib.hid (fun B w hb => add_any sp kReal (itB e.sz) B L2 (by omega) w hb)
  have A4 := Lib.hid (fun B w hb => add_any (decide (2097151 < e.gi)) kGid (itB e.gi) B L3 (by omega) w hb)
  have A5 := Lib.hid (fun B w hb => add_any (decide (100 < (e.lk.size : Int))) kLink e.lk B L4 (by omega) w hb)
  have a6 := fun B w hb => add_any (mtB e.ts e.tn) kMtime (textV e.ts e.tn) B L5 (by omega) w hb
  have A7 := Lib.hid (fun B w hb => add_any (!fits) kPath nm B L6 (by omega) w hb)
  have A8 := Lib.hid (fun B w hb => add_any (decide (2097151 < e.ui)) kUid (itB e.ui) B L7 (by omega) w hb)
  rw [← h1] at A1
  rw [← h2] at A2
  rw [← h3] at A3
  rw [← h4] at A4
  rw [← h5] at A5
  rw [← h6'] at a6
  rw [← h7] at A7
  rw [← h8] at A8
  clear h1 h2 h3 h4 h5 h6' h7 h8 hR hnm mo n1 n2 n3 n4 n5 n6 n7 hns
  unfold kMaj vOne at A1
  unfold kMin vZero at A2
  unfold kReal itB at A3
  unfold kGid itB at A4
  unfold kLink at A5
  unfold kMtime at a6
  unfold kPath at A7
  unfold kUid itB at A8
  have hb0 : BoxPrs ((w.alloc (.cells #[.string e.nm, .int .u8 e.kd, .int .i64 e.md, .int .i64 e.ui, .int .i64 e.gi, .int .i64 e.sz, .int .i64 e.ts, .int .i64 e.tn, .string e.lk, .string e.us, .string e.gr, .int .i64 e.ma, .int .i64 e.mi, .string e.dt, .slice e.pa e.pn e.pc] 26)).alloc (.cells #[.slice none 0 0] 29)) (w.heap.size + 1) [] := by
    have := Boxed.new (w.alloc (.cells #[.string e.nm, .int .u8 e.kd, .int .i64 e.md, .int .i64 e.ui, .int .i64 e.gi, .int .i64 e.sz, .int .i64 e.ts, .int .i64 e.tn, .string e.lk, .string e.us, .string e.gr, .int .i64 e.ma, .int .i64 e.mi, .string e.dt, .slice e.pa e.pn e.pc] 26)) 29 (.slice none 0 0)
    rw [World.size_alloc] at this
    exact ⟨_, this, World.ownsRow_nil _ _ _ _⟩
  have Hb0 := Lib.hid hb0
  clear hb0
  generalize Lib.itoa e.sz = i1 at *
  generalize Lib.itoa e.gi = i2 at *
  generalize Lib.itoa e.ui = i3 at *
  generalize textV e.ts e.tn = tv at *
  generalize textE e.ts e.tn = te at *
  cases htn : (e.tn == 0) with
  | false =>
    have qn : (e.tn != 0) = true := by simp only [bne, htn]; rfl
    rw [mtB_yes htn] at a6
    have A6 := Lib.hid a6
    clear a6 htn
    as_aux_lemma =>
      go_enter Tryz.func95, Tryz.ntmps95
      go_wp2_with fail
      refine (C1.out _).mono ?_; rintro x w1 ⟨rfl, hx1⟩
      go_wp2_with fail
      refine (C2.out _).mono ?_; rintro x w2 ⟨rfl, hx2⟩
      have hq2 := hx1.trans hx2
      have hy2 := ((Ext.refl (w.alloc (.cells #[.string e.nm, .int .u8 e.kd, .int .i64 e.md, .int .i64 e.ui, .int .i64 e.gi, .int .i64 e.sz, .int .i64 e.ts, .int .i64 e.tn, .string e.lk, .string e.us, .string e.gr, .int .i64 e.ma, .int .i64 e.mi, .string e.dt, .slice e.pa e.pn e.pc] 26))).alloc _).trans hq2
      obtain ⟨⟨g20, g21, g22, g23, g24, g25, g26, g27, g28, g29, g210, g211, g212, g213, g214⟩, gl2⟩ := ent_box e hy2
      go_wp2_with fail
      refine (C3.out _ (ht.ext (Ext.trans ((Ext.refl w).alloc _) hy2))).mono ?_; rintro x w3 ⟨rfl, hx3⟩
      have hy3 := hy2.trans hx3
      have Hb3 := Lib.hid (Hb0.out.ext (hq2.trans hx3))
      clear g20 g21 g22 g23 g24 g25 g26 g27 g28 g29 g210 g211 g212 g213 g214 gl2
      obtain ⟨⟨g30, g31, g32, g33, g34, g35, g36, g37, g38, g39, g310, g311, g312, g313, g314⟩, gl3⟩ := ent_box e hy3
      go_wp2_with fail
      refine (C4.out _).mono ?_; rintro x w4 ⟨rfl, hx4⟩
      go_wp2_with fail
      refine (A1.out _ _ (Hb3.out.ext hx4)).mono ?_; rintro x w5 ⟨rfl, hb5, hB5⟩
      have hy5 := ext_below2 (hy3.trans hx4) hB5
      have Hb5 := Lib.hid hb5
      clear hb5 hB5
      clear g30 g31 g32 g33 g34 g35 g36 g37 g38 g39 g310 g311 g312 g313 g314 gl3
      obtain ⟨⟨g50, g51, g52, g53, g54, g55, g56, g57, g58, g59, g510, g511, g512, g513, g514⟩, gl5⟩ := ent_box e hy5
      go_wp2_with fail
      refine (C4.out _).mono ?_; rintro x w6 ⟨rfl, hx6⟩
      go_wp2_with fail
      refine (A2.out _ _ (Hb5.out.ext hx6)).mono ?_; rintro x w7 ⟨rfl, hb7, hB7⟩
      have hy7 := ext_below2 (hy5.trans hx6) hB7
      have hw7 := Ext.trans ((Ext.refl w).alloc _) hy7
      have Hb7 := Lib.hid hb7
      clear hb7 hB7
      clear g50 g51 g52 g53 g54 g55 g56 g57 g58 g59 g510 g511 g512 g513 g514 gl5
      obtain ⟨⟨g70, g71, g72, g73, g74, g75, g76, g77, g78, g79, g710, g711, g712, g713, g714⟩, gl7⟩ := ent_box e hy7
      go_wp2_with fail
      refine wp_region_detT (fun _ _ w9 => Stood _ w9) false 6 99 (by kernel_rfl) (by kernel_rfl) (Stood.start _) ?_
      simp only [List.take_succ_cons, List.take_zero, List.drop_succ_cons, List.drop_zero]
      repeat (first
        | (refine detT_skip (by decide) (by rfl) ?_; simp only [Act.put, List.setIfInBounds_toArray, List.set_cons_zero, List.set_cons_succ])
        | (refine detT_plain (v := ?_) (by decide) rfl (by rfl) (fun _ _ w' hS => ?_) ?_; rotate_left; (focus (obtain ⟨hcl, hxt⟩ := hS; go_wp2_with (first | ((with_reducible refine (C4.out _).mono ?_); rintro e w1 ⟨rfl, hx1⟩) | ((with_reducible refine (C5.out _ (ht.ext (hw7.trans hxt))).mono ?_); rintro e w1 ⟨rfl, hx1⟩)); (first | refine ⟨?_, rfl, hcl, hxt⟩ | refine ⟨?_, rfl, Stood.of (hxt.trans (by assumption))⟩); (first | (simp only [List.getElem?_toArray, List.getElem?_cons_succ, List.getElem?_cons_zero]; rfl) | rfl))); simp only [Act.put, List.setIfInBounds_toArray, List.set_cons_zero, List.set_cons_succ]))
      refine detT_end ?_
      intro w8 hS
      have hx8 := hS.2
      clear hS
      go_wp2_with fail
      refine (A3.out _ _ (Hb7.out.ext hx8)).mono ?_; rintro x w9 ⟨rfl, hb9, hB9⟩
      have hy9 := ext_below2 (hy7.trans hx8) hB9
      have hw9 := Ext.trans ((Ext.refl w).alloc _) hy9
      have Hb9 := Lib.hid hb9
      clear hb9 hB9
      clear g70 g71 g72 g73 g74 g75 g76 g77 g78 g79 g710 g711 g712 g713 g714 gl7
      obtain ⟨⟨g90, g91, g92, g93, g94, g95, g96, g97, g98, g99, g910, g911, g912, g913, g914⟩, gl9⟩ := ent_box e hy9
      go_wp2_with fail
      refine wp_region_detT (fun _ _ w9 => Stood _ w9) false 8 99 (by kernel_rfl) (by kernel_rfl) (Stood.start _) ?_
      simp only [List.take_succ_cons, List.take_zero, List.drop_succ_cons, List.drop_zero]
      repeat (first
        | (refine detT_skip (by decide) (by rfl) ?_; simp only [Act.put, List.setIfInBounds_toArray, List.set_cons_zero, List.set_cons_succ])
        | (refine detT_plain (v := ?_) (by decide) rfl (by rfl) (fun _ _ w' hS => ?_) ?_; rotate_left; (focus (obtain ⟨hcl, hxt⟩ := hS; go_wp2_with (first | ((with_reducible refine (C8.out _).mono ?_); rintro e w1 ⟨rfl, hx1⟩) | ((with_reducible refine (C6.out _ (ht.ext (hw9.trans hxt))).mono ?_); rintro e w1 ⟨rfl, hx1⟩)); (first | refine ⟨?_, rfl, hcl, hxt⟩ | refine ⟨?_, rfl, Stood.of (hxt.trans (by assumption))⟩); (first | (simp only [List.getElem?_toArray, List.getElem?_cons_succ, List.getElem?_cons_zero]; rfl) | rfl))); simp only [Act.put, List.setIfInBounds_toArray, List.set_cons_zero, List.set_cons_succ]))
      refine detT_end ?_
      intro w10 hS
      have hx10 := hS.2
      clear hS
      go_wp2_with fail
      refine (A4.out _ _ (Hb9.out.ext hx10)).mono ?_; rintro x w11 ⟨rfl, hb11, hB11⟩
      have hy11 := ext_below2 (hy9.trans hx10) hB11
      have Hb11 := Lib.hid hb11
      clear hb11 hB11
      clear g90 g91 g92 g93 g94 g95 g96 g97 g98 g99 g910 g911 g912 g913 g914 gl9
      obtain ⟨⟨g110, g111, g112, g113, g114, g115, g116, g117, g118, g119, g1110, g1111, g1112, g1113, g1114⟩, gl11⟩ := ent_box e hy11
      go_wp2_with fail
      refine (A5.out _ _ Hb11.out).mono ?_; rintro x w12 ⟨rfl, hb12, hB12⟩
      have hy12 := ext_below2 hy11 hB12
      have hw12 := Ext.trans ((Ext.refl w).alloc _) hy12
      have Hb12 := Lib.hid hb12
      clear hb12 hB12
      clear g110 g111 g112 g113 g114 g115 g116 g117 g118 g119 g1110 g1111 g1112 g1113 g1114 gl11
      obtain ⟨⟨g120, g121, g122, g123, g124, g125, g126, g127, g128, g129, g1210, g1211, g1212, g1213, g1214⟩, gl12⟩ := ent_box e hy12
      go_wp2_with fail
      refine wp_region_detT (fun _ _ w9 => Stood _ w9) false 14 99 (by kernel_rfl) (by kernel_rfl) (Stood.start _) ?_
      simp only [List.take_succ_cons, List.take_zero, List.drop_succ_cons, List.drop_zero]
      repeat (first
        | (refine detT_skip (by decide) (by rfl) ?_; simp only [Act.put, List.setIfInBounds_toArray, List.set_cons_zero, List.set_cons_succ])
        | (refine detT_plain (v := ?_) (by decide) rfl (by rfl) (fun _ _ w' hS => ?_) ?_; rotate_left; (focus (obtain ⟨hcl, hxt⟩ := hS; go_wp2_with (first | ((with_reducible refine (C9.out _).mono ?_); rintro e w1 ⟨rfl, hx1⟩) | ((with_reducible refine (C10.out _).mono ?_); rintro e w1 ⟨rfl, hx1⟩)); (first | refine ⟨?_, rfl, hcl, hxt⟩ | refine ⟨?_, rfl, Stood.of (hxt.trans (by assumption))⟩); (first | (simp only [List.getElem?_toArray, List.getElem?_cons_succ, List.getElem?_cons_zero]; rfl) | rfl))); simp only [Act.put, List.setIfInBounds_toArray, List.set_cons_zero, List.set_cons_succ]))
      refine detT_end ?_
      intro w13 hS
      have hx13 := hS.2
      clear hS
      go_wp2_with fail
      refine (A6.out _ _ (Hb12.out.ext hx13)).mono ?_; rintro x w14 ⟨rfl, hb14, hB14⟩
      have hy14 := ext_below2 (hy12.trans hx13) hB14
      have Hb14 := Lib.hid hb14
      clear hb14 hB14
      clear g120 g121 g122 g123 g124 g125 g126 g127 g128 g129 g1210 g1211 g1212 g1213 g1214 gl12
      obtain ⟨⟨g140, g141, g142, g143, g144, g145, g146, g147, g148, g149, g1410, g1411, g1412, g1413, g1414⟩, gl14⟩ := ent_box e hy14
      go_wp2_with fail
      refine (C1.out _).mono ?_; rintro x w15 ⟨rfl, hx15⟩
      go_wp2_with fail
      refine (A7.out _ _ (Hb14.out.ext hx15)).mono ?_; rintro x w16 ⟨rfl, hb16, hB16⟩
      have hy16 := ext_below2 (hy14.trans hx15) hB16
      have hw16 := Ext.trans ((Ext.refl w).alloc _) hy16
      have Hb16 := Lib.hid hb16
      clear hb16 hB16
      clear g140 g141 g142 g143 g144 g145 g146 g147 g148 g149 g1410 g1411 g1412 g1413 g1414 gl14
      obtain ⟨⟨g160, g161, g162, g163, g164, g165, g166, g167, g168, g169, g1610, g1611, g1612, g1613, g1614⟩, gl16⟩ := ent_box e hy16
      go_wp2_with fail
      refine wp_region_detT (fun _ _ w9 => Stood _ w9) false 8 99 (by kernel_rfl) (by kernel_rfl) (Stood.start _) ?_
      simp only [List.take_succ_cons, List.take_zero, List.drop_succ_cons, List.drop_zero]
      repeat (first
        | (refine detT_skip (by decide) (by rfl) ?_; simp only [Act.put, List.setIfInBounds_toArray, List.set_cons_zero, List.set_cons_succ])
        | (refine detT_plain (v := ?_) (by decide) rfl (by rfl) (fun _ _ w' hS => ?_) ?_; rotate_left; (focus (obtain ⟨hcl, hxt⟩ := hS; go_wp2_with (first | ((with_reducible refine (C8.out _).mono ?_); rintro e w1 ⟨rfl, hx1⟩) | ((with_reducible refine (C7.out _ (ht.ext (hw16.trans hxt))).mono ?_); rintro e w1 ⟨rfl, hx1⟩)); (first | refine ⟨?_, rfl, hcl, hxt⟩ | refine ⟨?_, rfl, Stood.of (hxt.trans (by assumption))⟩); (first | (simp only [List.getElem?_toArray, List.getElem?_cons_succ, List.getElem?_cons_zero]; rfl) | rfl))); simp only [Act.put, List.setIfInBounds_toArray, List.set_cons_zero, List.set_cons_succ]))
      refine detT_end ?_
      intro w17 hS
      have hx17 := hS.2
      clear hS
      go_wp2_with fail
      refine (A8.out _ _ (Hb16.out.ext hx17)).mono ?_; rintro x w18 ⟨rfl, hb18, hB18⟩
      have hy18 := ext_below2 (hy16.trans hx17) hB18
      have hw18 := Ext.trans ((Ext.refl w).alloc _) hy18
      obtain ⟨vv, hbx, hown⟩ := hb18
      have hcx := hbx.cell
      have hlx := hbx.lt
      have HS := Lib.hid (IsPrs.ofOwns hown)
      clear hown hbx hB18
      go_wp2_with fail
      go_ret
      exact ⟨_, rfl, HS.out, hw18⟩
  | true =>
    have qn : (e.tn != 0) = false := by simp only [bne, htn]; rfl
    rw [mtB_no htn] at a6
    have A6 := Lib.hid a6
    clear a6 htn
    generalize rngB e.ts 0 8589934591 = rg at *
    as_aux_lemma =>
      go_enter Tryz.func95, Tryz.ntmps95
      go_wp2_with fail
      refine (C1.out _).mono ?_; rintro x w1 ⟨rfl, hx1⟩
      go_wp2_with fail
      refine (C2.out _).mono ?_; rintro x w2 ⟨rfl, hx2⟩
      have hq2 := hx1.trans hx2
      have hy2 := ((Ext.refl (w.alloc (.cells #[.string e.nm, .int .u8 e.kd, .int .i64 e.md, .int .i64 e.ui, .int .i64 e.gi, .int .i64 e.sz, .int .i64 e.ts, .int .i64 e.tn, .string e.lk, .string e.us, .string e.gr, .int .i64 e.ma, .int .i64 e.mi, .string e.dt, .slice e.pa e.pn e.pc] 26))).alloc _).trans hq2
      obtain ⟨⟨g20, g21, g22, g23, g24, g25, g26, g27, g28, g29, g210, g211, g212, g213, g214⟩, gl2⟩ := ent_box e hy2
      go_wp2_with fail
      refine (C3.out _ (ht.ext (Ext.trans ((Ext.refl w).alloc _) hy2))).mono ?_; rintro x w3 ⟨rfl, hx3⟩
      have hy3 := hy2.trans hx3
      have Hb3 := Lib.hid (Hb0.out.ext (hq2.trans hx3))
      clear g20 g21 g22 g23 g24 g25 g26 g27 g28 g29 g210 g211 g212 g213 g214 gl2
      obtain ⟨⟨g30, g31, g32, g33, g34, g35, g36, g37, g38, g39, g310, g311, g312, g313, g314⟩, gl3⟩ := ent_box e hy3
      go_wp2_with fail
      refine (C4.out _).mono ?_; rintro x w4 ⟨rfl, hx4⟩
      go_wp2_with fail
      refine (A1.out _ _ (Hb3.out.ext hx4)).mono ?_; rintro x w5 ⟨rfl, hb5, hB5⟩
      have hy5 := ext_below2 (hy3.trans hx4) hB5
      have Hb5 := Lib.hid hb5
      clear hb5 hB5
      clear g30 g31 g32 g33 g34 g35 g36 g37 g38 g39 g310 g311 g312 g313 g314 gl3
      obtain ⟨⟨g50, g51, g52, g53, g54, g55, g56, g57, g58, g59, g510, g511, g512, g513, g514⟩, gl5⟩ := ent_box e hy5
      go_wp2_with fail
      refine (C4.out _).mono ?_; rintro x w6 ⟨rfl, hx6⟩
      go_wp2_with fail
      refine (A2.out _ _ (Hb5.out.ext hx6)).mono ?_; rintro x w7 ⟨rfl, hb7, hB7⟩
      have hy7 := ext_below2 (hy5.trans hx6) hB7
      have hw7 := Ext.trans ((Ext.refl w).alloc _) hy7
      have Hb7 := Lib.hid hb7
      clear hb7 hB7
      clear g50 g51 g52 g53 g54 g55 g56 g57 g58 g59 g510 g511 g512 g513 g514 gl5
      obtain ⟨⟨g70, g71, g72, g73, g74, g75, g76, g77, g78, g79, g710, g711, g712, g713, g714⟩, gl7⟩ := ent_box e hy7
      go_wp2_with fail
      refine wp_region_detT (fun _ _ w9 => Stood _ w9) false 6 99 (by kernel_rfl) (by kernel_rfl) (Stood.start _) ?_
      simp only [List.take_succ_cons, List.take_zero, List.drop_succ_cons, List.drop_zero]
      repeat (first
        | (refine detT_skip (by decide) (by rfl) ?_; simp only [Act.put, List.setIfInBounds_toArray, List.set_cons_zero, List.set_cons_succ])
        | (refine detT_plain (v := ?_) (by decide) rfl (by rfl) (fun _ _ w' hS => ?_) ?_; rotate_left; (focus (obtain ⟨hcl, hxt⟩ := hS; go_wp2_with (first | ((with_reducible refine (C4.out _).mono ?_); rintro e w1 ⟨rfl, hx1⟩) | ((with_reducible refine (C5.out _ (ht.ext (hw7.trans hxt))).mono ?_); rintro e w1 ⟨rfl, hx1⟩)); (first | refine ⟨?_, rfl, hcl, hxt⟩ | refine ⟨?_, rfl, Stood.of (hxt.trans (by assumption))⟩); (first | (simp only [List.getElem?_toArray, List.getElem?_cons_succ, List.getElem?_cons_zero]; rfl) | rfl))); simp only [Act.put, List.setIfInBounds_toArray, List.set_cons_zero, List.set_cons_succ]))
      refine detT_end ?_
      intro w8 hS
      have hx8 := hS.2
      clear hS
      go_wp2_with fail
      refine (A3.out _ _ (Hb7.out.ext hx8)).mono ?_; rintro x w9 ⟨rfl, hb9, hB9⟩
      have hy9 := ext_below2 (hy7.trans hx8) hB9
      have hw9 := Ext.trans ((Ext.refl w).alloc _) hy9
      have Hb9 := Lib.hid hb9
      clear hb9 hB9
      clear g70 g71 g72 g73 g74 g75 g76 g77 g78 g79 g710 g711 g712 g713 g714 gl7
      obtain ⟨⟨g90, g91, g92, g93, g94, g95, g96, g97, g98, g99, g910, g911, g912, g913, g914⟩, gl9⟩ := ent_box e hy9
      go_wp2_with fail
      refine wp_region_detT (fun _ _ w9 => Stood _ w9) false 8 99 (by kernel_rfl) (by kernel_rfl) (Stood.start _) ?_
      simp only [List.take_succ_cons, List.take_zero, List.drop_succ_cons, List.drop_zero]
      repeat (first
        | (refine detT_skip (by decide) (by rfl) ?_; simp only [Act.put, List.setIfInBounds_toArray, List.set_cons_zero, List.set_cons_succ])
        | (refine detT_plain (v := ?_) (by decide) rfl (by rfl) (fun _ _ w' hS => ?_) ?_; rotate_left; (focus (obtain ⟨hcl, hxt⟩ := hS; go_wp2_with (first | ((with_reducible refine (C8.out _).mono ?_); rintro e w1 ⟨rfl, hx1⟩) | ((with_reducible refine (C6.out _ (ht.ext (hw9.trans hxt))).mono ?_); rintro e w1 ⟨rfl, hx1⟩)); (first | refine ⟨?_, rfl, hcl, hxt⟩ | refine ⟨?_, rfl, Stood.of (hxt.trans (by assumption))⟩); (first | (simp only [List.getElem?_toArray, List.getElem?_cons_succ, List.getElem?_cons_zero]; rfl) | rfl))); simp only [Act.put, List.setIfInBounds_toArray, List.set_cons_zero, List.set_cons_succ]))
      refine detT_end ?_
      intro w10 hS
      have hx10 := hS.2
      clear hS
      go_wp2_with fail
      refine (A4.out _ _ (Hb9.out.ext hx10)).mono ?_; rintro x w11 ⟨rfl, hb11, hB11⟩
      have hy11 := ext_below2 (hy9.trans hx10) hB11
      have Hb11 := Lib.hid hb11
      clear hb11 hB11
      clear g90 g91 g92 g93 g94 g95 g96 g97 g98 g99 g910 g911 g912 g913 g914 gl9
      obtain ⟨⟨g110, g111, g112, g113, g114, g115, g116, g117, g118, g119, g1110, g1111, g1112, g1113, g1114⟩, gl11⟩ := ent_box e hy11
      go_wp2_with fail
      refine (A5.out _ _ Hb11.out).mono ?_; rintro x w12 ⟨rfl, hb12, hB12⟩
      have hy12 := ext_below2 hy11 hB12
      have hw12 := Ext.trans ((Ext.refl w).alloc _) hy12
      have Hb12 := Lib.hid hb12
      clear hb12 hB12
      clear g110 g111 g112 g113 g114 g115 g116 g117 g118 g119 g1110 g1111 g1112 g1113 g1114 gl11
      obtain ⟨⟨g120, g121, g122, g123, g124, g125, g126, g127, g128, g129, g1210, g1211, g1212, g1213, g1214⟩, gl12⟩ := ent_box e hy12
      go_wp2_with fail
      refine wp_region_detT (fun _ _ w9 => Stood _ w9) false 14 99 (by kernel_rfl) (by kernel_rfl) (Stood.start _) ?_
      simp only [List.take_succ_cons, List.take_zero, List.drop_succ_cons, List.drop_zero]
      repeat (first
        | (refine detT_skip (by decide) (by rfl) ?_; simp only [Act.put, List.setIfInBounds_toArray, List.set_cons_zero, List.set_cons_succ, qn])
        | (refine detT_plain (v := ?_) (by decide) rfl (by rfl) (fun _ _ w' hS => ?_) ?_; rotate_left; (focus (obtain ⟨hcl, hxt⟩ := hS; go_wp2_with (first | ((with_reducible refine (C9.out _).mono ?_); rintro e w1 ⟨rfl, hx1⟩) | ((with_reducible refine (C10.out _).mono ?_); rintro e w1 ⟨rfl, hx1⟩)); (first | refine ⟨?_, rfl, hcl, hxt⟩ | refine ⟨?_, rfl, Stood.of (hxt.trans (by assumption))⟩); (first | (simp only [List.getElem?_toArray, List.getElem?_cons_succ, List.getElem?_cons_zero]; rfl) | rfl))); simp only [Act.put, List.setIfInBounds_toArray, List.set_cons_zero, List.set_cons_succ]))
      refine detT_end ?_
      intro w13 hS
      have hx13 := hS.2
      clear hS
      go_wp2_with fail
      refine (A6.out _ _ (Hb12.out.ext hx13)).mono ?_; rintro x w14 ⟨rfl, hb14, hB14⟩
      have hy14 := ext_below2 (hy12.trans hx13) hB14
      have Hb14 := Lib.hid hb14
      clear hb14 hB14
      clear g120 g121 g122 g123 g124 g125 g126 g127 g128 g129 g1210 g1211 g1212 g1213 g1214 gl12
      obtain ⟨⟨g140, g141, g142, g143, g144, g145, g146, g147, g148, g149, g1410, g1411, g1412, g1413, g1414⟩, gl14⟩ := ent_box e hy14
      go_wp2_with fail
      refine (C1.out _).mono ?_; rintro x w15 ⟨rfl, hx15⟩
      go_wp2_with fail
      refine (A7.out _ _ (Hb14.out.ext hx15)).mono ?_; rintro x w16 ⟨rfl, hb16, hB16⟩
      have hy16 := ext_below2 (hy14.trans hx15) hB16
      have hw16 := Ext.trans ((Ext.refl w).alloc _) hy16
      have Hb16 := Lib.hid hb16
      clear hb16 hB16
      clear g140 g141 g142 g143 g144 g145 g146 g147 g148 g149 g1410 g1411 g1412 g1413 g1414 gl14
      obtain ⟨⟨g160, g161, g162, g163, g164, g165, g166, g167, g168, g169, g1610, g1611, g1612, g1613, g1614⟩, gl16⟩ := ent_box e hy16
      go_wp2_with fail
      refine wp_region_detT (fun _ _ w9 => Stood _ w9) false 8 99 (by kernel_rfl) (by kernel_rfl) (Stood.start _) ?_
      simp only [List.take_succ_cons, List.take_zero, List.drop_succ_cons, List.drop_zero]
      repeat (first
        | (refine detT_skip (by decide) (by rfl) ?_; simp only [Act.put, List.setIfInBounds_toArray, List.set_cons_zero, List.set_cons_succ])
        | (refine detT_plain (v := ?_) (by decide) rfl (by rfl) (fun _ _ w' hS => ?_) ?_; rotate_left; (focus (obtain ⟨hcl, hxt⟩ := hS; go_wp2_with (first | ((with_reducible refine (C8.out _).mono ?_); rintro e w1 ⟨rfl, hx1⟩) | ((with_reducible refine (C7.out _ (ht.ext (hw16.trans hxt))).mono ?_); rintro e w1 ⟨rfl, hx1⟩)); (first | refine ⟨?_, rfl, hcl, hxt⟩ | refine ⟨?_, rfl, Stood.of (hxt.trans (by assumption))⟩); (first | (simp only [List.getElem?_toArray, List.getElem?_cons_succ, List.getElem?_cons_zero]; rfl) | rfl))); simp only [Act.put, List.setIfInBounds_toArray, List.set_cons_zero, List.set_cons_succ]))
      refine detT_end ?_
      intro w17 hS
      have hx17 := hS.2
      clear hS
      go_wp2_with fail
      refine (A8.out _ _ (Hb16.out.ext hx17)).mono ?_; rintro x w18 ⟨rfl, hb18, hB18⟩
      have hy18 := ext_below2 (hy16.trans hx17) hB18
      have hw18 := Ext.trans ((Ext.refl w).alloc _) hy18
      obtain ⟨vv, hbx, hown⟩ := hb18
      have hcx := hbx.cell
      have hlx := hbx.lt
      have HS := Lib.hid (IsPrs.ofOwns hown)
      clear hown hbx hB18
      go_wp2_with fail
      go_ret
      exact ⟨_, rfl, HS.out, hw18⟩
end Go.Proofs.YtnbcbipigiopbaaGreatDoor
