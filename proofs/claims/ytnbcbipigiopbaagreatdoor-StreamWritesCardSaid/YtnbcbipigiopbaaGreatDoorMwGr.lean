/-
  The reference's gnu: its walk. No conditions but the arguments' bounds.
-/
import Derived.Test.YtnbcbipigiopbaaGreatDoorMwG
namespace Go.Proofs.YtnbcbipigiopbaaGreatDoor
open Go.RowKit Go.WideShapes

theorem cutTo_any (s : ByteArray) (hs : s.size ≤ 4611686018427387900) (w : World) : Calls Tryz.prog 75 #[.string s, .int .i64 100] w fun x w' => x = .returned (.string (cutB s)) ∧ Ext w w' := by
  obtain ⟨q, hq⟩ : ∃ q, q = min 100 s.size := ⟨_, rfl⟩
  have hc : Hid (cutB s = s.extract 0 q) := Lib.hid (by rw [hq]; rfl)
  have hm : min (100 : Int) (s.size : Int) = (q : Int) := by omega
  have hqs : (q : Int) ≤ (s.size : Int) := by omega
  clear hq
  go_enter Tryz.func75, Tryz.ntmps75
  go_wp2_with fail
  go_ret
  exact ⟨by rw [hc.out]; rfl, (by show Below _ _ _; repeat' (first | (with_reducible exact Below.refl _ _) | (with_reducible assumption) | (with_reducible refine belowDrewN ?_ _) | (with_reducible refine Below.alloc ?_ ?_ _) | (with_reducible refine Below.drew ?_) | (with_reducible refine Below.setCell ?_ ?_ _) | go_size))⟩
/-- What both loops come to. -/
structure Two (TB : Nat → ByteArray) (lk nm hK hL : ByteArray) : Prop where
  z : TB 0 = ⟨#[]⟩
  o : TB 1 = TB 0 ++ longB lk hK
  t : TB 2 = TB 1 ++ longB nm hL
theorem two_ex (lk nm hK hL : ByteArray) : ∃ TB, Two TB lk nm hK hL ∧ TB 2 = (⟨#[]⟩ ++ longB lk hK) ++ longB nm hL :=
  ⟨fun j => match j with | 0 => ⟨#[]⟩ | 1 => ⟨#[]⟩ ++ longB lk hK | _ => (⟨#[]⟩ ++ longB lk hK) ++ longB nm hL, ⟨rfl, rfl, rfl⟩, rfl⟩
theorem ext_left {h r : ByteArray} {i j : Nat} (hj : j ≤ h.size) : (h ++ r).extract i j = h.extract i j := by
  apply ByteArray.ext
  rw [ByteArray.data_extract, ByteArray.data_extract, ByteArray.data_append]
  apply Array.ext'
  rw [Array.toList_extract, Array.toList_extract, Array.toList_append, List.extract_eq_take_drop, List.extract_eq_take_drop]
  have hl : h.data.toList.length = h.size := rfl
  by_cases hi : i ≤ h.size
  · rw [List.drop_append_of_le_length (by omega), List.take_append_of_le_length (by rw [List.length_drop]; omega)]
  · rw [show j - i = 0 by omega, List.take_zero, List.take_zero]
theorem cell_new {W : World} {cs : Array Value} {t : TypeId} {b o : Nat} {v : Value} (hb : b = W.heap.size) (ho : cs[o]? = some v) : (W.alloc (.cells cs t)).cell? ⟨b, o, none⟩ = some v := by
  subst hb
  simpa using ho
theorem charB (b : Bool) (w : World) : Calls Tryz.prog 79 #[.int .i64 (if b = true then 1 else 0)] w fun e w' => e = .returned (.string (moreB b)) ∧ Ext w w' := by
  cases b
  · exact char_any 0 (by decide) (by decide) w
  · exact char_any 1 (by decide) (by decide) w

theorem char_1 (w : World) : Calls Tryz.prog 79 #[.int .i64 1] w fun e w' => e = .returned (.string (moreB true)) ∧ Ext w w' := charB true w
theorem char_0 (w : World) : Calls Tryz.prog 79 #[.int .i64 0] w fun e w' => e = .returned (.string (moreB false)) ∧ Ext w w' := charB false w
theorem one_yes0 (w : World) : Calls Tryz.prog 72 #[.bool true] w fun e w' => e = .returned (.int .i64 1) ∧ Ext w w' := one_lit true w
theorem one_no0 (w : World) : Calls Tryz.prog 72 #[.bool false] w fun e w' => e = .returned (.int .i64 0) ∧ Ext w w' := one_lit false w

set_option maxHeartbeats 8000000 in
set_option maxRecDepth 100000 in
theorem refGnu_any (e : Ent) (ok : e.Ok) (A S : Nat → Int) (w : World) (hp : IsPieces w (.slice e.pa e.pn e.pc) e.pn A S) (mo : MemOk e A S) (hdt : e.dt.size ≤ 4009) (hK hL h : ByteArray) (k : Int)
    (HK : Wrn 3 ⟨#[]⟩ ⟨#[]⟩ 75 0 0 0 ((e.lk.size : Int) + 1) 0 0 0 longN ⟨#[]⟩ hK 0) (HL : Wrn 3 ⟨#[]⟩ ⟨#[]⟩ 76 0 0 0 (((namB e.kd e.nm).size : Int) + 1) 0 0 0 longN ⟨#[]⟩ hL 0)
    (HW : Wrn 3 e.us e.gr (kdS e) e.md e.ui e.gi e.dt.size e.ts e.ma e.mi (cutB (namB e.kd e.nm)) (cutB e.lk) h k) (hm : HasMax w) :
    Calls Tryz.prog 35 #[.agg #[.string ⟨#[]⟩, .string ⟨#[]⟩, .string e.us, .string e.gr, .string ⟨#[]⟩, .int .u8 e.kd, .int .i64 e.md, .int .i64 e.ui, .int .i64 e.gi, .int .i64 (e.dt.size : Int), .int .i64 e.ts, .int .i64 e.ma, .int .i64 e.mi], .agg #[.string e.nm, .int .u8 e.kd, .int .i64 e.md, .int .i64 e.ui, .int .i64 e.gi, .int .i64 e.sz, .int .i64 e.ts, .int .i64 e.tn, .string e.lk, .string e.us, .string e.gr, .int .i64 e.ma, .int .i64 e.mi, .string e.dt, .slice e.pa e.pn e.pc], .string (namB e.kd e.nm)] w fun x w' => x = .returned (.tuple #[.string (gnuV e A S hK hL h k), .int .i64 (gnuE e k)]) ∧ Ext w w' := by
  have h6 := ok.pn
  have hlk := mo.lk
  have hns : (namB e.kd e.nm).size ≤ 121 := by have := namB_size e.kd e.nm; have := mo.nm; omega
  cases htn : (e.tn == 0) with
  | false =>
    have hV : gnuV e A S hK hL h k = ⟨#[]⟩ := by unfold gnuV; rw [htn]; rfl
    have hE : gnuE e k = 2 := by unfold gnuE; rw [htn]; rfl
    have qn : decide (0 < e.tn) = true := decide_eq_true (by have := mo.tn0; simp at htn; omega)
    rw [hV, hE]
    clear HK HL HW mo hp hV hE htn
    as_aux_lemma =>
      go_enter Tryz.func35, Tryz.ntmps35
      go_wp2_with fail
      go_ret2
      exact ⟨rfl, (by show Below _ _ _; repeat' (first | (with_reducible exact Below.refl _ _) | (with_reducible assumption) | (with_reducible refine belowDrewN ?_ _) | (with_reducible refine Below.alloc ?_ ?_ _) | (with_reducible refine Below.drew ?_) | (with_reducible refine Below.setCell ?_ ?_ _) | go_size))⟩
  | true =>
    have qn : decide (0 < e.tn) = false := decide_eq_false (by have : e.tn = 0 := by simpa using htn
                                                               omega)
    have hE : gnuE e k = k := by unfold gnuE; rw [htn]; rfl
    have hz1 := longB_size (s := e.lk) (HK.1 rfl)
    have hz2 := longB_size (s := namB e.kd e.nm) (HL.1 rfl)
    have CK := Lib.hid (fun w hm => (HK.2 (e.lk ++ ⟨#[0]⟩) (by rw [ByteArray.size_append]; show _ + 1 ≤ _; omega)).2 w hm)
    have CL := Lib.hid (fun w hm => (HL.2 (namB e.kd e.nm ++ ⟨#[0]⟩) (by rw [ByteArray.size_append]; show _ + 1 ≤ _; omega)).2 w hm)
    have zK := wrnV_size (k := 0) (h := hK) (bs := e.lk ++ ⟨#[0]⟩) HK.1
    have zL := wrnV_size (k := 0) (h := hL) (bs := namB e.kd e.nm ++ ⟨#[0]⟩) HL.1
    rw [ByteArray.size_append, show (⟨#[0]⟩ : ByteArray).size = 1 from rfl] at zK zL
    have C5 := Lib.hid (fun w => refSparse_any e ok w)
    have C6 := Lib.hid (fun w => cutTo_any (namB e.kd e.nm) (by omega) w)
    have C7 := Lib.hid (fun w => cutTo_any e.lk (by omega) w)
    have HlK : Hid (longB e.lk hK = if e.lk.size ≤ 100 then ⟨#[]⟩ else wrnV 0 hK (e.lk ++ ⟨#[0]⟩)) := Lib.hid rfl
    have HlL : Hid (longB (namB e.kd e.nm) hL = if (namB e.kd e.nm).size ≤ 100 then ⟨#[]⟩ else wrnV 0 hL (namB e.kd e.nm ++ ⟨#[0]⟩)) := Lib.hid rfl
    obtain ⟨TB, hTw, hT2⟩ := two_ex e.lk (namB e.kd e.nm) hK hL
    have hT2' : outB e hK hL = TB 2 := by rw [hT2]; rfl
    have zT0 : (TB 0).size = 0 := by rw [hTw.z]; rfl
    have zT1 : (TB 1).size ≤ 1500 := by rw [hTw.o, ByteArray.size_append, zT0]; omega
    have zT2 : (TB 2).size ≤ 3000 := by rw [hTw.t, ByteArray.size_append]; omega
    have T0 := Lib.hid hTw.z
    have T1 := Lib.hid hTw.o
    have T2 := Lib.hid hTw.t
    rw [hE]
    clear hTw hT2 hz1 hz2 hE HK HL
    unfold longN at CK CL
    have hsps : ∀ b, spB e.sz e.dt e.pn = b → kdS e = if b = true then 83 else e.kd := fun b hb => by unfold kdS; rw [hb]
    generalize hsp : spB e.sz e.dt e.pn = sp at *
    generalize hnm : namB e.kd e.nm = nm at *
    have HVb' : k ≠ 0 → gnuV e A S hK hL h k = ⟨#[]⟩ := fun hk => by unfold gnuV; rw [htn, if_pos rfl, if_neg hk]
    have HVf' : k = 0 → sp = false → gnuV e A S hK hL h k = TB 2 ++ (h ++ (e.dt ++ padB e.dt.size)) := fun hk hs => by unfold gnuV; rw [htn, if_pos rfl, if_pos hk, hsp, hs, if_neg (by decide), hT2']
    have HVt' : k = 0 → sp = true → gnuV e A S hK hL h k = TB 2 ++ sealS (hhB h A S e.pn e.sz) ++ blkB (fun k => A (4 + k)) (fun k => S (4 + k)) (e.pn - 4) ++ (e.dt ++ padB e.dt.size) := fun hk hs => by unfold gnuV; rw [htn, if_pos rfl, if_pos hk, hsp, hs, if_pos rfl, hT2']
    generalize gnuV e A S hK hL h k = RV at *
    have HVb := Lib.hid HVb'
    have HVf := Lib.hid HVf'
    have HVt := Lib.hid HVt'
    clear hT2' htn hsp hnm HVb' HVf' HVt'
    as_aux_lemma =>
      go_enter Tryz.func35, Tryz.ntmps35
      go_wp2_with fail
      go_loopw [8, 32] (fun s i wr => ∃ j : Nat, j ≤ 2 ∧ s = .string (TB j) ∧ i = .int .i64 (j : Int) ∧ Ext (((w.alloc (.cells #[.string ⟨#[]⟩, .string ⟨#[]⟩, .string e.us, .string e.gr, .string ⟨#[]⟩, .int .u8 e.kd, .int .i64 e.md, .int .i64 e.ui, .int .i64 e.gi, .int .i64 (e.dt.size : Int), .int .i64 e.ts, .int .i64 e.ma, .int .i64 e.mi] 59)).alloc (.cells #[.string e.nm, .int .u8 e.kd, .int .i64 e.md, .int .i64 e.ui, .int .i64 e.gi, .int .i64 e.sz, .int .i64 e.ts, .int .i64 e.tn, .string e.lk, .string e.us, .string e.gr, .int .i64 e.ma, .int .i64 e.mi, .string e.dt, .slice e.pa e.pn e.pc] 26)).alloc (.cells #[.int .u8 75, .string e.lk, .int .u8 76, .string nm] 132)) wr) (fun _ i _ => 2 - (intOf i).toNat)
      case atStart => exact ⟨0, by omega, by rw [T0.out], rfl, Ext.refl _⟩
      case round =>
        obtain ⟨j, hj, rfl, rfl, hE⟩ := hrel
        have hq : ∀ (o : Nat) (v : Value), (#[.int .u8 75, .string e.lk, .int .u8 76, .string nm] : Array Value)[o]? = some v → wr.cell? ⟨w.heap.size + 1 + 1, o, none⟩ = some v := fun o v ho => by
          exact hE.cell (cell_new (by simp) ho)
        rcases (show j = 0 ∨ j = 1 ∨ j = 2 by omega) with rfl | rfl | rfl
        · skip
          have g1 := hq 0 _ rfl
          have g2 := hq 1 _ rfl
          have gl := World.block_lt_of_cell? wr _ g1
          by_cases hl : e.lk.size ≤ 100
          · as_aux_lemma =>
              have q1 : decide ((100 : Int) < (e.lk.size : Int)) = false := decide_eq_false (by omega)
              have hst : Hid (TB 1 = TB 0) := Lib.hid (by rw [T1.out, HlK.out, if_pos hl, app_empty])
              clear hq CK CL C5 C6 C7
              go_wp2_with fail
              go_roundw
              case rel => exact ⟨1, by omega, by rw [hst.out], rfl, hE.alloc _⟩
              case measure => simp [intOf]
          · as_aux_lemma =>
              have q1 : decide ((100 : Int) < (e.lk.size : Int)) = true := decide_eq_true (by omega)
              have hst : Hid (TB 1 = TB 0 ++ wrnV 0 hK (e.lk ++ ⟨#[0]⟩)) := Lib.hid (by rw [T1.out, HlK.out, if_neg hl])
              have hw0 := hm.ext (Ext.trans ((((Ext.refl w).alloc _).alloc _).alloc _) (hE.alloc (.cells #[.int .u8 75, .string e.lk] 132)))
              clear hq HlK C5 C6 C7
              generalize wrnV 0 hK (e.lk ++ ⟨#[0]⟩) = V at *
              go_wp2_with fail
              refine (CK.out _ hw0).mono ?_; rintro x w1 ⟨rfl, hx1⟩
              go_wp2_with fail
              go_roundw
              case rel => exact ⟨1, by omega, by rw [hst.out], rfl, (hE.alloc _).trans hx1⟩
              case measure => simp [intOf]
        · skip
          have g1 := hq 2 _ rfl
          have g2 := hq 3 _ rfl
          have gl := World.block_lt_of_cell? wr _ g1
          by_cases hl : nm.size ≤ 100
          · as_aux_lemma =>
              have q1 : decide ((100 : Int) < (nm.size : Int)) = false := decide_eq_false (by omega)
              have hst : Hid (TB 2 = TB 1) := Lib.hid (by rw [T2.out, HlL.out, if_pos hl, app_empty])
              clear hq CK CL C5 C6 C7
              go_wp2_with fail
              go_roundw
              case rel => exact ⟨2, by omega, by rw [hst.out], rfl, hE.alloc _⟩
              case measure => simp [intOf]
          · as_aux_lemma =>
              have q1 : decide ((100 : Int) < (nm.size : Int)) = true := decide_eq_true (by omega)
              have hst : Hid (TB 2 = TB 1 ++ wrnV 0 hL (nm ++ ⟨#[0]⟩)) := Lib.hid (by rw [T2.out, HlL.out, if_neg hl])
              have hw0 := hm.ext (Ext.trans ((((Ext.refl w).alloc _).alloc _).alloc _) (hE.alloc (.cells #[.int .u8 76, .string nm] 132)))
              clear hq HlL C5 C6 C7
              generalize wrnV 0 hL (nm ++ ⟨#[0]⟩) = V at *
              go_wp2_with fail
              refine (CL.out _ hw0).mono ?_; rintro x w1 ⟨rfl, hx1⟩
              go_wp2_with fail
              go_roundw
              case rel => exact ⟨2, by omega, by rw [hst.out], rfl, (hE.alloc _).trans hx1⟩
              case measure => simp [intOf]
        · clear hq CK CL HlK HlL
          cases hs : sp with
          | false =>
            rw [hs] at C5
            rw [hsps _ hs, if_neg (by decide)] at HW
            have c8 := (HW.2 e.dt (by omega)).2
            have hz6 := wrnV_size (k := k) (h := h) (bs := e.dt) HW.1
            by_cases hk : k = 0
            · have hh0 := HW.1 hk
              have hV := Lib.hid (HVf.out hk hs)
              rw [← wrnV_good h e.dt rfl] at hV
              rw [hk] at c8
              have Hk := Lib.hid hk
              have C8 := Lib.hid c8
              clear HW c8 HVb HVf HVt hs hsps mo hp hk hz6
              have hz6 := wrnV_size (k := 0) (h := h) (bs := e.dt) (fun _ => hh0)
              generalize wrnV 0 h e.dt = V at *
              generalize cutB e.lk = cl at *
              generalize cutB nm = cn at *
              as_aux_lemma =>
                have hze : Ext (w.alloc (.cells #[.string ⟨#[]⟩, .string ⟨#[]⟩, .string e.us, .string e.gr, .string ⟨#[]⟩, .int .u8 e.kd, .int .i64 e.md, .int .i64 e.ui, .int .i64 e.gi, .int .i64 (e.dt.size : Int), .int .i64 e.ts, .int .i64 e.ma, .int .i64 e.mi] 59)) wr := Ext.trans (((Ext.refl _).alloc _).alloc _) hE
                have hye : Ext ((w.alloc (.cells #[.string ⟨#[]⟩, .string ⟨#[]⟩, .string e.us, .string e.gr, .string ⟨#[]⟩, .int .u8 e.kd, .int .i64 e.md, .int .i64 e.ui, .int .i64 e.gi, .int .i64 (e.dt.size : Int), .int .i64 e.ts, .int .i64 e.ma, .int .i64 e.mi] 59)).alloc (.cells #[.string e.nm, .int .u8 e.kd, .int .i64 e.md, .int .i64 e.ui, .int .i64 e.gi, .int .i64 e.sz, .int .i64 e.ts, .int .i64 e.tn, .string e.lk, .string e.us, .string e.gr, .int .i64 e.ma, .int .i64 e.mi, .string e.dt, .slice e.pa e.pn e.pc] 26)) wr := Ext.trans ((Ext.refl _).alloc _) hE
                have hB0 := ent_box e hye
                simp only [World.size_alloc] at hB0
                obtain ⟨⟨g00, g01, g02, g03, g04, g05, g06, g07, g08, g09, g010, g011, g012, g013, g014⟩, gl0⟩ := hB0
                go_wp2_with fail
                refine (C5.out _).mono ?_; rintro x w1 ⟨rfl, hx1⟩
                have hz1 := hze.trans hx1
                have hy1 := hye.trans hx1
                have hw1 := Ext.trans ((Ext.refl w).alloc _) hz1
                have hB1 := ent_box e hy1
                simp only [World.size_alloc] at hB1
                obtain ⟨⟨g10, g11, g12, g13, g14, g15, g16, g17, g18, g19, g110, g111, g112, g113, g114⟩, gl1⟩ := hB1
                obtain ⟨⟨r10, r11, r12, r13, r14, r15, r16, r17, r18, r19, r110, r111, r112⟩, rf1, rl1⟩ := raw_box hz1
                go_wp2_with fail
                refine wp_region_det (Stood _) (by kernel_rfl) (by kernel_rfl) (Stood.start _) ?_
                repeat (first
                  | (refine det_skip (by rfl) ?_; simp only [Act.put, List.setIfInBounds_toArray, List.set_cons_zero, List.set_cons_succ])
                  | (refine det_op (v := ?_) rfl (by rfl) (fun w' hS => ?_) ?_; rotate_left; (focus (obtain ⟨hcl, hxt⟩ := hS; go_wp2_with (first | ((with_reducible refine (C6.out _).mono ?_); rintro e w1 ⟨rfl, hx1⟩) | ((with_reducible refine (C7.out _).mono ?_); rintro e w1 ⟨rfl, hx1⟩) | ((with_reducible refine (C8.out _ (hm.ext (hw1.trans hxt))).mono ?_); rintro e w1 ⟨rfl, hx1⟩)); (first | refine ⟨?_, rfl, hcl, hxt⟩ | refine ⟨?_, rfl, Stood.of (hxt.trans (by assumption))⟩); (first | (simp only [List.getElem?_toArray, List.getElem?_cons_succ, List.getElem?_cons_zero]; rfl) | rfl))); simp only [Act.put, List.setIfInBounds_toArray, List.set_cons_zero, List.set_cons_succ]))
                refine det_end ?_
                intro w2 hS
                have hx2 := hS.2
                clear hS
                go_wp2_with fail
                go_ret2
                exact ⟨by rw [hV.out, Hk.out]; rfl, hw1.trans hx2⟩
            · have hV := Lib.hid (HVb.out hk)
              have qk : (k == 0) = false := by simpa using hk
              have C8 := Lib.hid c8
              clear HW c8 HVb HVf HVt hs hsps mo hp hk
              generalize wrnV k h e.dt = V at *
              generalize cutB e.lk = cl at *
              generalize cutB nm = cn at *
              as_aux_lemma =>
                have hze : Ext (w.alloc (.cells #[.string ⟨#[]⟩, .string ⟨#[]⟩, .string e.us, .string e.gr, .string ⟨#[]⟩, .int .u8 e.kd, .int .i64 e.md, .int .i64 e.ui, .int .i64 e.gi, .int .i64 (e.dt.size : Int), .int .i64 e.ts, .int .i64 e.ma, .int .i64 e.mi] 59)) wr := Ext.trans (((Ext.refl _).alloc _).alloc _) hE
                have hye : Ext ((w.alloc (.cells #[.string ⟨#[]⟩, .string ⟨#[]⟩, .string e.us, .string e.gr, .string ⟨#[]⟩, .int .u8 e.kd, .int .i64 e.md, .int .i64 e.ui, .int .i64 e.gi, .int .i64 (e.dt.size : Int), .int .i64 e.ts, .int .i64 e.ma, .int .i64 e.mi] 59)).alloc (.cells #[.string e.nm, .int .u8 e.kd, .int .i64 e.md, .int .i64 e.ui, .int .i64 e.gi, .int .i64 e.sz, .int .i64 e.ts, .int .i64 e.tn, .string e.lk, .string e.us, .string e.gr, .int .i64 e.ma, .int .i64 e.mi, .string e.dt, .slice e.pa e.pn e.pc] 26)) wr := Ext.trans ((Ext.refl _).alloc _) hE
                have hB0 := ent_box e hye
                simp only [World.size_alloc] at hB0
                obtain ⟨⟨g00, g01, g02, g03, g04, g05, g06, g07, g08, g09, g010, g011, g012, g013, g014⟩, gl0⟩ := hB0
                go_wp2_with fail
                refine (C5.out _).mono ?_; rintro x w1 ⟨rfl, hx1⟩
                have hz1 := hze.trans hx1
                have hy1 := hye.trans hx1
                have hw1 := Ext.trans ((Ext.refl w).alloc _) hz1
                have hB1 := ent_box e hy1
                simp only [World.size_alloc] at hB1
                obtain ⟨⟨g10, g11, g12, g13, g14, g15, g16, g17, g18, g19, g110, g111, g112, g113, g114⟩, gl1⟩ := hB1
                obtain ⟨⟨r10, r11, r12, r13, r14, r15, r16, r17, r18, r19, r110, r111, r112⟩, rf1, rl1⟩ := raw_box hz1
                go_wp2_with fail
                refine wp_region_det (Stood _) (by kernel_rfl) (by kernel_rfl) (Stood.start _) ?_
                repeat (first
                  | (refine det_skip (by rfl) ?_; simp only [Act.put, List.setIfInBounds_toArray, List.set_cons_zero, List.set_cons_succ])
                  | (refine det_op (v := ?_) rfl (by rfl) (fun w' hS => ?_) ?_; rotate_left; (focus (obtain ⟨hcl, hxt⟩ := hS; go_wp2_with (first | ((with_reducible refine (C6.out _).mono ?_); rintro e w1 ⟨rfl, hx1⟩) | ((with_reducible refine (C7.out _).mono ?_); rintro e w1 ⟨rfl, hx1⟩) | ((with_reducible refine (C8.out _ (hm.ext (hw1.trans hxt))).mono ?_); rintro e w1 ⟨rfl, hx1⟩)); (first | refine ⟨?_, rfl, hcl, hxt⟩ | refine ⟨?_, rfl, Stood.of (hxt.trans (by assumption))⟩); (first | (simp only [List.getElem?_toArray, List.getElem?_cons_succ, List.getElem?_cons_zero]; rfl) | rfl))); simp only [Act.put, List.setIfInBounds_toArray, List.set_cons_zero, List.set_cons_succ]))
                refine det_end ?_
                intro w2 hS
                have hx2 := hS.2
                clear hS
                go_wp2_with fail
                go_ret2
                exact ⟨by rw [hV.out]; rfl, hw1.trans hx2⟩
          | true =>
            rw [hs] at C5
            rw [hsps _ hs, if_pos rfl] at HW
            have c8 := (HW.2 e.dt (by omega)).2
            have hz6 := wrnV_size (k := k) (h := h) (bs := e.dt) HW.1
            by_cases hk : k = 0
            · have hV := Lib.hid (HVt.out hk hs)
              have hh := HW.1 hk
              rw [hk] at c8
              have Hk := Lib.hid hk
              have C8 := Lib.hid c8
              have hVe : Hid (wrnV 0 h e.dt = h ++ (e.dt ++ padB e.dt.size)) := Lib.hid (wrnV_good h e.dt rfl)
              have hVz : 512 ≤ (wrnV 0 h e.dt).size := by rw [hVe.out, ByteArray.size_append]; omega
              have hX1 : Hid ((wrnV 0 h e.dt).extract 0 386 = h.extract 0 386) := Lib.hid (by rw [hVe.out]; exact ext_left (by omega))
              have hX2 : Hid ((wrnV 0 h e.dt).extract 495 512 = h.extract 495 512) := Lib.hid (by rw [hVe.out]; exact ext_left (by omega))
              clear HW c8 HVb HVf HVt hs hsps hVe hk hz6
              have hz6 := wrnV_size (k := 0) (h := h) (bs := e.dt) (fun _ => hh)
              generalize wrnV 0 h e.dt = V at *
              generalize cutB e.lk = cl at *
              generalize cutB nm = cn at *
              have hhz := hhB_size hh mo
              have hXe : V.extract 0 386 ++ rowQ A S e.pn 4 ++ moreB (decide (4 < e.pn)) ++ octS e.sz 12 ++ V.extract 495 512 = hhB h A S e.pn e.sz := by
                rw [hX1.out, hX2.out]
                unfold hhB
                simp only [ByteArray.append_assoc]
              have c20 := fun W (hW : Ext w W) => piecesText_any 0 4 e.pn (by decide) (by decide) (.slice e.pa e.pn e.pc) A S W (hp.ext hW) mo.fits (fun k hk => ⟨(mo.pc k hk).2.1, (mo.pc k hk).2.2.2⟩)
              have c21 := fun W (hW : Ext w W) => piecesText_any 4 21 e.pn (by decide) (by decide) (.slice e.pa e.pn e.pc) A S W (hp.ext hW) mo.fits (fun k hk => ⟨(mo.pc k hk).2.1, (mo.pc k hk).2.2.2⟩)
              simp only [Nat.zero_add, Nat.sub_zero] at c20
              rw [show ((0 : Nat) : Int) = (0 : Int) from rfl, show ((4 : Nat) : Int) = (4 : Int) from rfl] at c20
              rw [show ((4 : Nat) : Int) = (4 : Int) from rfl, show ((21 : Nat) : Int) = (21 : Int) from rfl] at c21
              have CP := Lib.hid c20
              have CQ := Lib.hid c21
              have CO := Lib.hid (fun w => refOctal_any e.sz 12 (by have := mo.sz1; omega) w)
              have c22 := fun w => refSeal_any (hhB h A S e.pn e.sz) w (by omega)
              rw [sumE_512 hhz, ← hXe] at c22
              have CS := Lib.hid c22
              have CF := Lib.hid (fun w => refFill_any e.dt (by omega) w)
              have hpd := padB_size e.dt.size
              have hsz := sealS_size _ hhz
              rw [← hXe] at hsz hV
              have hn20 := mo.n20
              have hf4 : Fits12 (fun k => A (4 + k)) (fun k => S (4 + k)) (e.pn - 4) := fun k hk => mo.fits (4 + k) (by omega)
              have hR4 := rowQ_size mo.fits 4
              have hR21 := rowQ_size hf4 21
              have hD : (octS e.sz 12).size = 12 := by
                have := octS_size e.sz 12 (octM12 mo.sz0 (by have := mo.sz1; omega))
                omega
              have hM := moreB_size (decide (4 < e.pn))
              have hM0 := moreB_size false
              have hi1 : 386 ≤ (V.size : Int) := by omega
              have hi2 : 512 ≤ (V.size : Int) := by omega
              have he1 : (V.extract 0 386).size = 386 := by rw [ByteArray.size_extract]; omega
              have he2 : (V.extract 495 512).size = 17 := by rw [ByteArray.size_extract]; omega
              clear c20 c21 c22 hhz hX1 hX2 hXe hf4 hh
              by_cases hn4 : 4 < e.pn
              · have hblk : blkB (fun k => A (4 + k)) (fun k => S (4 + k)) (e.pn - 4) = rowQ (fun k => A (4 + k)) (fun k => S (4 + k)) (e.pn - 4) 21 ++ moreB false ++ padB 505 := by
                  unfold blkB
                  rw [if_neg (by omega), empty_app]
                have c23 := fun w => refFill_any (rowQ (fun k => A (4 + k)) (fun k => S (4 + k)) (e.pn - 4) 21 ++ moreB false) (by rw [ByteArray.size_append]; omega) w
                rw [show (rowQ (fun k => A (4 + k)) (fun k => S (4 + k)) (e.pn - 4) 21 ++ moreB false).size = 505 by rw [ByteArray.size_append, hR21, hM0]] at c23
                have CG := Lib.hid c23
                have C2 := Lib.hid (fun w => one_no0 w)
                have CD := Lib.hid (fun w => char_0 w)
                have hp5 := padB_size 505
                rw [hblk] at hV
                have q1 : decide ((4 : Int) < (e.pn : Int)) = true := decide_eq_true (by omega)
                have q2 : decide ((25 : Int) < (e.pn : Int)) = false := decide_eq_false (by omega)
                have q3 : decide (4 < e.pn) = true := decide_eq_true hn4
                have q4 : decide (25 < e.pn) = false := decide_eq_false (by omega)
                rw [q3] at CS hV hM hsz
                have C1 := Lib.hid (fun w => one_yes0 w)
                have CC := Lib.hid (fun w => char_1 w)
                clear c23 hblk mo hp q3
                generalize rowQ (fun k => A (4 + k)) (fun k => S (4 + k)) (e.pn - 4) 21 = R21 at *
                generalize rowQ A S e.pn 4 = R4 at *
                generalize octS e.sz 12 = D at *
                generalize octE e.sz 12 = DE at *
                generalize moreB true = M1 at *
                generalize moreB false = M0 at *
                generalize padB 505 = P5 at *
                generalize padB e.dt.size = PD at *
                as_aux_lemma =>
                  have hze : Ext (w.alloc (.cells #[.string ⟨#[]⟩, .string ⟨#[]⟩, .string e.us, .string e.gr, .string ⟨#[]⟩, .int .u8 e.kd, .int .i64 e.md, .int .i64 e.ui, .int .i64 e.gi, .int .i64 (e.dt.size : Int), .int .i64 e.ts, .int .i64 e.ma, .int .i64 e.mi] 59)) wr := Ext.trans (((Ext.refl _).alloc _).alloc _) hE
                  have hye : Ext ((w.alloc (.cells #[.string ⟨#[]⟩, .string ⟨#[]⟩, .string e.us, .string e.gr, .string ⟨#[]⟩, .int .u8 e.kd, .int .i64 e.md, .int .i64 e.ui, .int .i64 e.gi, .int .i64 (e.dt.size : Int), .int .i64 e.ts, .int .i64 e.ma, .int .i64 e.mi] 59)).alloc (.cells #[.string e.nm, .int .u8 e.kd, .int .i64 e.md, .int .i64 e.ui, .int .i64 e.gi, .int .i64 e.sz, .int .i64 e.ts, .int .i64 e.tn, .string e.lk, .string e.us, .string e.gr, .int .i64 e.ma, .int .i64 e.mi, .string e.dt, .slice e.pa e.pn e.pc] 26)) wr := Ext.trans ((Ext.refl _).alloc _) hE
                  have hB0 := ent_box e hye
                  simp only [World.size_alloc] at hB0
                  obtain ⟨⟨g00, g01, g02, g03, g04, g05, g06, g07, g08, g09, g010, g011, g012, g013, g014⟩, gl0⟩ := hB0
                  go_wp2_with fail
                  refine (C5.out _).mono ?_; rintro x w1 ⟨rfl, hx1⟩
                  have hz1 := hze.trans hx1
                  have hy1 := hye.trans hx1
                  have hw1 := Ext.trans ((Ext.refl w).alloc _) hz1
                  have hB1 := ent_box e hy1
                  simp only [World.size_alloc] at hB1
                  obtain ⟨⟨g10, g11, g12, g13, g14, g15, g16, g17, g18, g19, g110, g111, g112, g113, g114⟩, gl1⟩ := hB1
                  obtain ⟨⟨r10, r11, r12, r13, r14, r15, r16, r17, r18, r19, r110, r111, r112⟩, rf1, rl1⟩ := raw_box hz1
                  have hns1 : (w.alloc (.cells #[.string ⟨#[]⟩, .string ⟨#[]⟩, .string e.us, .string e.gr, .string ⟨#[]⟩, .int .u8 e.kd, .int .i64 e.md, .int .i64 e.ui, .int .i64 e.gi, .int .i64 (e.dt.size : Int), .int .i64 e.ts, .int .i64 e.ma, .int .i64 e.mi] 59)).heap.size = w.heap.size + 1 := by simp
                  have hw1' : Ext w (w1.setCell ⟨w.heap.size, 5, none⟩ (.int .u8 83)) := hw1.setCell (Nat.le_refl _) _
                  go_wp2_with fail
                  refine wp_region_det (Stood _) (by kernel_rfl) (by kernel_rfl) (Stood.start _) ?_
                  repeat (first
                    | (refine det_skip (by rfl) ?_; simp only [Act.put, List.setIfInBounds_toArray, List.set_cons_zero, List.set_cons_succ])
                    | (refine det_op (v := ?_) rfl (by rfl) (fun w' hS => ?_) ?_; rotate_left; (focus (obtain ⟨hcl, hxt⟩ := hS; go_wp2_with (first | ((with_reducible refine (C6.out _).mono ?_); rintro e w1 ⟨rfl, hx1⟩) | ((with_reducible refine (C7.out _).mono ?_); rintro e w1 ⟨rfl, hx1⟩) | ((with_reducible refine (C8.out _ (hm.ext (hw1'.trans hxt))).mono ?_); rintro e w1 ⟨rfl, hx1⟩)); (first | refine ⟨?_, rfl, hcl, hxt⟩ | refine ⟨?_, rfl, Stood.of (hxt.trans (by assumption))⟩); (first | (simp only [List.getElem?_toArray, List.getElem?_cons_succ, List.getElem?_cons_zero]; rfl) | rfl))); simp only [Act.put, List.setIfInBounds_toArray, List.set_cons_zero, List.set_cons_succ]))
                  refine det_end ?_
                  intro w2 hS
                  have hx2 := hS.2
                  have hcl2 := hS.1
                  clear hS
                  have he2 : ∀ (j : Nat) (v : Value), w1.cell? ⟨w.heap.size + 1, j, none⟩ = some v → w2.cell? ⟨w.heap.size + 1, j, none⟩ = some v := fun j v hj => by
                    rw [hcl2 _ _ (by rw [World.size_setCell]; exact gl1)]
                    rw [World.cell?_setCell_other _ _ _ _ (by simp)]
                    exact hj
                  have f5 := he2 5 _ g15
                  have f12 := he2 13 _ g113
                  have f13 := he2 14 _ g114
                  have hw2 := hw1'.trans hx2
                  clear hcl2
                  go_wp2_with fail
                  refine (CO.out _).mono ?_; rintro x w3 ⟨rfl, hx3⟩
                  have k12 := hx3.cell f12
                  have k13 := hx3.cell f13
                  have hl3 := World.block_lt_of_cell? w3 _ k12
                  have hw3 := hw2.trans hx3
                  go_wp2_with fail
                  refine wp_region_det (Stood _) (by kernel_rfl) (by kernel_rfl) (Stood.start _) ?_
                  repeat (first
                    | (refine det_skip (by rfl) ?_; simp only [Act.put, List.setIfInBounds_toArray, List.set_cons_zero, List.set_cons_succ])
                    | (refine det_op (v := ?_) rfl (by rfl) (fun w' hS => ?_) ?_; rotate_left; (focus (obtain ⟨hcl, hxt⟩ := hS; go_wp2_with (first | ((with_reducible refine (CP.out _ (hw3.trans hxt)).mono ?_); rintro e w1 ⟨rfl, hx1⟩) | ((with_reducible refine (C1.out _).mono ?_); rintro e w1 ⟨rfl, hx1⟩) | ((with_reducible refine (CC.out _).mono ?_); rintro e w1 ⟨rfl, hx1⟩) | ((with_reducible refine (CS.out _).mono ?_); rintro e w1 ⟨rfl, hx1⟩)); (first | refine ⟨?_, rfl, hcl, hxt⟩ | refine ⟨?_, rfl, Stood.of (hxt.trans (by assumption))⟩); (first | (simp only [List.getElem?_toArray, List.getElem?_cons_succ, List.getElem?_cons_zero]; rfl) | rfl))); simp only [Act.put, List.setIfInBounds_toArray, List.set_cons_zero, List.set_cons_succ]))
                  refine det_end ?_
                  intro w4 hS
                  have hx4 := hS.2
                  clear hS
                  have m12 := hx4.cell k12
                  have m13 := hx4.cell k13
                  have hl4 := World.block_lt_of_cell? w4 _ m12
                  have hw4 := hw3.trans hx4
                  go_wp2_with fail
                  refine wp_loop_rounds 2 ?_
                  rw [rounds_succ]
                  go_wp2_with fail
                  refine wp_region_det (Stood _) (by kernel_rfl) (by kernel_rfl) (Stood.start _) ?_
                  repeat (first
                    | (refine det_skip (by rfl) ?_; simp only [Act.put, List.setIfInBounds_toArray, List.set_cons_zero, List.set_cons_succ])
                    | (refine det_op (v := ?_) rfl (by rfl) (fun w' hS => ?_) ?_; rotate_left; (focus (obtain ⟨hcl, hxt⟩ := hS; go_wp2_with (first | ((with_reducible refine (CQ.out _ (hw4.trans hxt)).mono ?_); rintro e w1 ⟨rfl, hx1⟩) | ((with_reducible refine (C2.out _).mono ?_); rintro e w1 ⟨rfl, hx1⟩) | ((with_reducible refine (CD.out _).mono ?_); rintro e w1 ⟨rfl, hx1⟩) | ((with_reducible refine (CG.out _).mono ?_); rintro e w1 ⟨rfl, hx1⟩)); (first | refine ⟨?_, rfl, hcl, hxt⟩ | refine ⟨?_, rfl, Stood.of (hxt.trans (by assumption))⟩); (first | (simp only [List.getElem?_toArray, List.getElem?_cons_succ, List.getElem?_cons_zero]; rfl) | rfl))); simp only [Act.put, List.setIfInBounds_toArray, List.set_cons_zero, List.set_cons_succ]))
                  refine det_end ?_
                  intro w6 hS
                  have hx6 := hS.2
                  clear hS
                  have p12 := hx6.cell m12
                  have p13 := hx6.cell m13
                  have hl6 := World.block_lt_of_cell? w6 _ p12
                  have hw6 := hw4.trans hx6
                  go_wp2_with fail
                  rw [rounds_succ]
                  go_wp2_with fail
                  refine (CF.out _).mono ?_; rintro x w5 ⟨rfl, hx5⟩
                  go_wp2_with fail
                  go_ret2
                  exact ⟨by rw [hV.out, Hk.out]; rfl, hw6.trans hx5⟩
              · have hblk : blkB (fun k => A (4 + k)) (fun k => S (4 + k)) (e.pn - 4) = ⟨#[]⟩ := by
                  unfold blkB
                  rw [if_pos (by omega)]
                rw [hblk, app_empty] at hV
                have q1 : decide ((4 : Int) < (e.pn : Int)) = false := decide_eq_false (by omega)
                have q3 : decide (4 < e.pn) = false := decide_eq_false hn4
                rw [q3] at CS hV hM hsz
                have C1 := Lib.hid (fun w => one_no0 w)
                have CC := Lib.hid (fun w => char_0 w)
                clear hblk mo hp q3 CQ hR21 hM0
                generalize rowQ A S e.pn 4 = R4 at *
                generalize octS e.sz 12 = D at *
                generalize octE e.sz 12 = DE at *
                generalize moreB false = M0 at *
                generalize padB e.dt.size = PD at *
                as_aux_lemma =>
                  have hze : Ext (w.alloc (.cells #[.string ⟨#[]⟩, .string ⟨#[]⟩, .string e.us, .string e.gr, .string ⟨#[]⟩, .int .u8 e.kd, .int .i64 e.md, .int .i64 e.ui, .int .i64 e.gi, .int .i64 (e.dt.size : Int), .int .i64 e.ts, .int .i64 e.ma, .int .i64 e.mi] 59)) wr := Ext.trans (((Ext.refl _).alloc _).alloc _) hE
                  have hye : Ext ((w.alloc (.cells #[.string ⟨#[]⟩, .string ⟨#[]⟩, .string e.us, .string e.gr, .string ⟨#[]⟩, .int .u8 e.kd, .int .i64 e.md, .int .i64 e.ui, .int .i64 e.gi, .int .i64 (e.dt.size : Int), .int .i64 e.ts, .int .i64 e.ma, .int .i64 e.mi] 59)).alloc (.cells #[.string e.nm, .int .u8 e.kd, .int .i64 e.md, .int .i64 e.ui, .int .i64 e.gi, .int .i64 e.sz, .int .i64 e.ts, .int .i64 e.tn, .string e.lk, .string e.us, .string e.gr, .int .i64 e.ma, .int .i64 e.mi, .string e.dt, .slice e.pa e.pn e.pc] 26)) wr := Ext.trans ((Ext.refl _).alloc _) hE
                  have hB0 := ent_box e hye
                  simp only [World.size_alloc] at hB0
                  obtain ⟨⟨g00, g01, g02, g03, g04, g05, g06, g07, g08, g09, g010, g011, g012, g013, g014⟩, gl0⟩ := hB0
                  go_wp2_with fail
                  refine (C5.out _).mono ?_; rintro x w1 ⟨rfl, hx1⟩
                  have hz1 := hze.trans hx1
                  have hy1 := hye.trans hx1
                  have hw1 := Ext.trans ((Ext.refl w).alloc _) hz1
                  have hB1 := ent_box e hy1
                  simp only [World.size_alloc] at hB1
                  obtain ⟨⟨g10, g11, g12, g13, g14, g15, g16, g17, g18, g19, g110, g111, g112, g113, g114⟩, gl1⟩ := hB1
                  obtain ⟨⟨r10, r11, r12, r13, r14, r15, r16, r17, r18, r19, r110, r111, r112⟩, rf1, rl1⟩ := raw_box hz1
                  have hns1 : (w.alloc (.cells #[.string ⟨#[]⟩, .string ⟨#[]⟩, .string e.us, .string e.gr, .string ⟨#[]⟩, .int .u8 e.kd, .int .i64 e.md, .int .i64 e.ui, .int .i64 e.gi, .int .i64 (e.dt.size : Int), .int .i64 e.ts, .int .i64 e.ma, .int .i64 e.mi] 59)).heap.size = w.heap.size + 1 := by simp
                  have hw1' : Ext w (w1.setCell ⟨w.heap.size, 5, none⟩ (.int .u8 83)) := hw1.setCell (Nat.le_refl _) _
                  go_wp2_with fail
                  refine wp_region_det (Stood _) (by kernel_rfl) (by kernel_rfl) (Stood.start _) ?_
                  repeat (first
                    | (refine det_skip (by rfl) ?_; simp only [Act.put, List.setIfInBounds_toArray, List.set_cons_zero, List.set_cons_succ])
                    | (refine det_op (v := ?_) rfl (by rfl) (fun w' hS => ?_) ?_; rotate_left; (focus (obtain ⟨hcl, hxt⟩ := hS; go_wp2_with (first | ((with_reducible refine (C6.out _).mono ?_); rintro e w1 ⟨rfl, hx1⟩) | ((with_reducible refine (C7.out _).mono ?_); rintro e w1 ⟨rfl, hx1⟩) | ((with_reducible refine (C8.out _ (hm.ext (hw1'.trans hxt))).mono ?_); rintro e w1 ⟨rfl, hx1⟩)); (first | refine ⟨?_, rfl, hcl, hxt⟩ | refine ⟨?_, rfl, Stood.of (hxt.trans (by assumption))⟩); (first | (simp only [List.getElem?_toArray, List.getElem?_cons_succ, List.getElem?_cons_zero]; rfl) | rfl))); simp only [Act.put, List.setIfInBounds_toArray, List.set_cons_zero, List.set_cons_succ]))
                  refine det_end ?_
                  intro w2 hS
                  have hx2 := hS.2
                  have hcl2 := hS.1
                  clear hS
                  have he2 : ∀ (j : Nat) (v : Value), w1.cell? ⟨w.heap.size + 1, j, none⟩ = some v → w2.cell? ⟨w.heap.size + 1, j, none⟩ = some v := fun j v hj => by
                    rw [hcl2 _ _ (by rw [World.size_setCell]; exact gl1)]
                    rw [World.cell?_setCell_other _ _ _ _ (by simp)]
                    exact hj
                  have f5 := he2 5 _ g15
                  have f12 := he2 13 _ g113
                  have f13 := he2 14 _ g114
                  have hw2 := hw1'.trans hx2
                  clear hcl2
                  go_wp2_with fail
                  refine (CO.out _).mono ?_; rintro x w3 ⟨rfl, hx3⟩
                  have k12 := hx3.cell f12
                  have k13 := hx3.cell f13
                  have hl3 := World.block_lt_of_cell? w3 _ k12
                  have hw3 := hw2.trans hx3
                  go_wp2_with fail
                  refine wp_region_det (Stood _) (by kernel_rfl) (by kernel_rfl) (Stood.start _) ?_
                  repeat (first
                    | (refine det_skip (by rfl) ?_; simp only [Act.put, List.setIfInBounds_toArray, List.set_cons_zero, List.set_cons_succ])
                    | (refine det_op (v := ?_) rfl (by rfl) (fun w' hS => ?_) ?_; rotate_left; (focus (obtain ⟨hcl, hxt⟩ := hS; go_wp2_with (first | ((with_reducible refine (CP.out _ (hw3.trans hxt)).mono ?_); rintro e w1 ⟨rfl, hx1⟩) | ((with_reducible refine (C1.out _).mono ?_); rintro e w1 ⟨rfl, hx1⟩) | ((with_reducible refine (CC.out _).mono ?_); rintro e w1 ⟨rfl, hx1⟩) | ((with_reducible refine (CS.out _).mono ?_); rintro e w1 ⟨rfl, hx1⟩)); (first | refine ⟨?_, rfl, hcl, hxt⟩ | refine ⟨?_, rfl, Stood.of (hxt.trans (by assumption))⟩); (first | (simp only [List.getElem?_toArray, List.getElem?_cons_succ, List.getElem?_cons_zero]; rfl) | rfl))); simp only [Act.put, List.setIfInBounds_toArray, List.set_cons_zero, List.set_cons_succ]))
                  refine det_end ?_
                  intro w4 hS
                  have hx4 := hS.2
                  clear hS
                  have m12 := hx4.cell k12
                  have m13 := hx4.cell k13
                  have hl4 := World.block_lt_of_cell? w4 _ m12
                  have hw4 := hw3.trans hx4
                  go_wp2_with fail
                  refine wp_loop_rounds 1 ?_
                  rw [rounds_succ]
                  go_wp2_with fail
                  refine (CF.out _).mono ?_; rintro x w5 ⟨rfl, hx5⟩
                  go_wp2_with fail
                  go_ret2
                  exact ⟨by rw [hV.out, Hk.out]; rfl, hw4.trans hx5⟩
            · have hV := Lib.hid (HVb.out hk)
              have qk : (k == 0) = false := by simpa using hk
              have C8 := Lib.hid c8
              clear HW c8 HVb HVf HVt hs hsps mo hp hk
              generalize wrnV k h e.dt = V at *
              generalize cutB e.lk = cl at *
              generalize cutB nm = cn at *
              as_aux_lemma =>
                have hze : Ext (w.alloc (.cells #[.string ⟨#[]⟩, .string ⟨#[]⟩, .string e.us, .string e.gr, .string ⟨#[]⟩, .int .u8 e.kd, .int .i64 e.md, .int .i64 e.ui, .int .i64 e.gi, .int .i64 (e.dt.size : Int), .int .i64 e.ts, .int .i64 e.ma, .int .i64 e.mi] 59)) wr := Ext.trans (((Ext.refl _).alloc _).alloc _) hE
                have hye : Ext ((w.alloc (.cells #[.string ⟨#[]⟩, .string ⟨#[]⟩, .string e.us, .string e.gr, .string ⟨#[]⟩, .int .u8 e.kd, .int .i64 e.md, .int .i64 e.ui, .int .i64 e.gi, .int .i64 (e.dt.size : Int), .int .i64 e.ts, .int .i64 e.ma, .int .i64 e.mi] 59)).alloc (.cells #[.string e.nm, .int .u8 e.kd, .int .i64 e.md, .int .i64 e.ui, .int .i64 e.gi, .int .i64 e.sz, .int .i64 e.ts, .int .i64 e.tn, .string e.lk, .string e.us, .string e.gr, .int .i64 e.ma, .int .i64 e.mi, .string e.dt, .slice e.pa e.pn e.pc] 26)) wr := Ext.trans ((Ext.refl _).alloc _) hE
                have hB0 := ent_box e hye
                simp only [World.size_alloc] at hB0
                obtain ⟨⟨g00, g01, g02, g03, g04, g05, g06, g07, g08, g09, g010, g011, g012, g013, g014⟩, gl0⟩ := hB0
                go_wp2_with fail
                refine (C5.out _).mono ?_; rintro x w1 ⟨rfl, hx1⟩
                have hz1 := hze.trans hx1
                have hy1 := hye.trans hx1
                have hw1 := Ext.trans ((Ext.refl w).alloc _) hz1
                have hB1 := ent_box e hy1
                simp only [World.size_alloc] at hB1
                obtain ⟨⟨g10, g11, g12, g13, g14, g15, g16, g17, g18, g19, g110, g111, g112, g113, g114⟩, gl1⟩ := hB1
                obtain ⟨⟨r10, r11, r12, r13, r14, r15, r16, r17, r18, r19, r110, r111, r112⟩, rf1, rl1⟩ := raw_box hz1
                have hns1 : (w.alloc (.cells #[.string ⟨#[]⟩, .string ⟨#[]⟩, .string e.us, .string e.gr, .string ⟨#[]⟩, .int .u8 e.kd, .int .i64 e.md, .int .i64 e.ui, .int .i64 e.gi, .int .i64 (e.dt.size : Int), .int .i64 e.ts, .int .i64 e.ma, .int .i64 e.mi] 59)).heap.size = w.heap.size + 1 := by simp
                have hw1' : Ext w (w1.setCell ⟨w.heap.size, 5, none⟩ (.int .u8 83)) := hw1.setCell (Nat.le_refl _) _
                go_wp2_with fail
                refine wp_region_det (Stood _) (by kernel_rfl) (by kernel_rfl) (Stood.start _) ?_
                repeat (first
                  | (refine det_skip (by rfl) ?_; simp only [Act.put, List.setIfInBounds_toArray, List.set_cons_zero, List.set_cons_succ])
                  | (refine det_op (v := ?_) rfl (by rfl) (fun w' hS => ?_) ?_; rotate_left; (focus (obtain ⟨hcl, hxt⟩ := hS; go_wp2_with (first | ((with_reducible refine (C6.out _).mono ?_); rintro e w1 ⟨rfl, hx1⟩) | ((with_reducible refine (C7.out _).mono ?_); rintro e w1 ⟨rfl, hx1⟩) | ((with_reducible refine (C8.out _ (hm.ext (hw1'.trans hxt))).mono ?_); rintro e w1 ⟨rfl, hx1⟩)); (first | refine ⟨?_, rfl, hcl, hxt⟩ | refine ⟨?_, rfl, Stood.of (hxt.trans (by assumption))⟩); (first | (simp only [List.getElem?_toArray, List.getElem?_cons_succ, List.getElem?_cons_zero]; rfl) | rfl))); simp only [Act.put, List.setIfInBounds_toArray, List.set_cons_zero, List.set_cons_succ]))
                refine det_end ?_
                intro w2 hS
                have hx2 := hS.2
                have hcl2 := hS.1
                clear hS
                go_wp2_with fail
                go_ret2
                exact ⟨by rw [hV.out]; rfl, hw1'.trans hx2⟩
end Go.Proofs.YtnbcbipigiopbaaGreatDoor
