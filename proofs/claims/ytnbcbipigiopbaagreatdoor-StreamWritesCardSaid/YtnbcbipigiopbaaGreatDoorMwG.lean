/-
  member.writeGnu: its closure, its walk. No conditions but the arguments' bounds.
-/
import Derived.Test.YtnbcbipigiopbaaGreatDoorPkK
import Derived.Test.YtnbcbipigiopbaaGreatDoorMwO
import Derived.Test.YtnbcbipigiopbaaGreatDoorPkD
import Derived.RangeFuncBox
import Derived.RangeFuncNested
namespace Go.Proofs.YtnbcbipigiopbaaGreatDoor
open Go.RowKit Go.WideShapes

def longN : ByteArray := ⟨#[46, 47, 46, 47, 64, 76, 111, 110, 103, 76, 105, 110, 107]⟩
theorem longN_fit : fitS longN 100 = true := by decide +kernel
/-- A name or a link in full, where it is too long. -/
def longB (s h : ByteArray) : ByteArray := if s.size ≤ 100 then ⟨#[]⟩ else wrnV 0 h (s ++ ⟨#[0]⟩)
/-- A name's or a link's first 100 bytes. -/
def cutB (s : ByteArray) : ByteArray := s.extract 0 (min 100 s.size)
theorem cutB_short {s : ByteArray} (h : s.size ≤ 100) : cutB s = s := by
  unfold cutB
  rw [Nat.min_eq_right h]
  exact ByteArray.extract_zero_size
theorem cutB_long {s : ByteArray} (h : ¬ s.size ≤ 100) : cutB s = s.extract 0 100 := by
  unfold cutB
  rw [Nat.min_eq_left (by omega)]
theorem cutB_size (s : ByteArray) : (cutB s).size ≤ 100 := by
  unfold cutB
  rw [ByteArray.size_extract]
  omega
theorem app_empty (s : ByteArray) : s ++ (⟨#[]⟩ : ByteArray) = s := ByteArray.append_empty
theorem empty_app (s : ByteArray) : (⟨#[]⟩ : ByteArray) ++ s = s := ByteArray.empty_append
theorem wrnV_size {k : Int} {h bs : ByteArray} (hh : k = 0 → h.size = 512) : (wrnV k h bs).size ≤ 1023 + bs.size := by
  unfold wrnV
  split
  · have := padB_size bs.size
    rw [ByteArray.size_append, ByteArray.size_append, hh (by assumption)]
    omega
  · show 0 ≤ _
    omega
theorem longB_size {s h : ByteArray} (hh : h.size = 512) : (longB s h).size ≤ 1024 + s.size := by
  unfold longB
  split
  · show 0 ≤ _
    omega
  · have := wrnV_size (k := 0) (h := h) (bs := s ++ ⟨#[0]⟩) (fun _ => hh)
    have e1 : (⟨#[0]⟩ : ByteArray).size = 1 := rfl
    rw [ByteArray.size_append, e1] at this
    omega
/-- The headers of a long link and of a long name. -/
theorem long_any (s : ByteArray) (kd : Int) (hs : s.size ≤ 1000) (hk0 : 0 < kd) (hk1 : kd < 256) : ∃ h : ByteArray, Wrn 3 ⟨#[]⟩ ⟨#[]⟩ kd 0 0 0 ((s.size : Int) + 1) 0 0 0 longN ⟨#[]⟩ h 0 :=
  wrn_long kd ((s.size : Int) + 1) longN (by decide) longN_fit hk0 hk1 (by omega) (octM12 (by omega) (by omega)) (by omega)
theorem ext_of_below {w W1 W : World} {o : Obj} (h0 : Ext (w.alloc o) W1) (h : Below (w.heap.size + 1) W1 W) : Ext (w.alloc o) W := by
  show Below _ _ _
  rw [World.size_alloc]
  refine Below.trans ?_ h
  have h1 : Below (w.alloc o).heap.size (w.alloc o) W1 := h0
  rw [World.size_alloc] at h1
  exact h1

set_option maxHeartbeats 4000000 in
set_option maxRecDepth 100000 in
theorem short_any (s : ByteArray) (kd : Int) (B : Nat) (cur h : ByteArray) (w : World) (hs : s.size ≤ 200) (hcur : cur.size ≤ 5000) (hm : HasMax w) (hb : Boxed w B 9 (.string cur)) (HW : Wrn 3 ⟨#[]⟩ ⟨#[]⟩ kd 0 0 0 ((s.size : Int) + 1) 0 0 0 longN ⟨#[]⟩ h 0) :
    Calls Tryz.prog 91 #[.string s, .int .u8 kd, .pointer (some ⟨B, 0, none⟩)] w fun x w' => x = .returned (.tuple #[.string (cutB s), .nilIface]) ∧ Boxed w' B 9 (.string (cur ++ longB s h)) ∧ Below B w w' := by
  have hc := hb.cell
  have hf := hb.frozen
  have hl := hb.lt
  by_cases h1 : s.size ≤ 100
  · have q1 : decide ((s.size : Int) ≤ 100) = true := decide_eq_true (by omega)
    have e1 : Hid (cutB s = s) := Lib.hid (cutB_short h1)
    have e2 : Hid (cur ++ longB s h = cur) := Lib.hid (by unfold longB; rw [if_pos h1, app_empty])
    rw [e1.out, e2.out]
    go_enter Tryz.func91, Tryz.ntmps91
    go_wp2_with fail
    go_ret2
    exact ⟨rfl, hb, Below.refl _ _⟩
  · have q1 : decide ((s.size : Int) ≤ 100) = false := decide_eq_false (by omega)
    have e1 : Hid (cutB s = s.extract 0 100) := Lib.hid (cutB_long h1)
    have e2 : Hid (longB s h = wrnV 0 h (s ++ ⟨#[0]⟩)) := Lib.hid (if_neg h1)
    have hz := wrnV_size (k := 0) (h := h) (bs := s ++ ⟨#[0]⟩) HW.1
    have hz0 : (s ++ ⟨#[0]⟩ : ByteArray).size = s.size + 1 := by rw [ByteArray.size_append]; rfl
    have c1 := (HW.2 (s ++ ⟨#[0]⟩) (by omega)).1
    rw [show errOf 0 = .nilIface from rfl] at c1
    have C1 := Lib.hid c1
    rw [e1.out, e2.out]
    have hi : 100 ≤ (s.size : Int) := by omega
    clear c1 HW e2 h1
    have hz3 : (wrnV 0 h (s ++ ⟨#[0]⟩)).size ≤ 1300 := by omega
    clear hz hz0
    unfold longN at C1
    generalize wrnV 0 h (s ++ ⟨#[0]⟩) = V at *
    go_enter Tryz.func91, Tryz.ntmps91
    go_wp2_with fail
    refine (C1.out _ hm).mono ?_; rintro x w1 ⟨rfl, hx1⟩
    have hb1 : Boxed w1 B 9 (.string cur) := (hx1.block B hl).trans hb
    have hc1 := hb1.cell
    have hf1 := hb1.frozen
    have hl1 := hb1.lt
    go_wp2_with fail
    go_ret2
    exact ⟨rfl, hb1.set _, (below_le (Nat.le_of_lt hl) hx1).setCell (p := ⟨B, 0, none⟩) (Nat.le_refl B) _⟩

def kdS (e : Ent) : Int := if spB e.sz e.dt e.pn = true then 83 else e.kd
/-- The long names of a member. -/
def outB (e : Ent) (hK hL : ByteArray) : ByteArray := (⟨#[]⟩ ++ longB e.lk hK) ++ longB (namB e.kd e.nm) hL
def gnuE (e : Ent) (k : Int) : Int := if e.tn == 0 then k else 2
/-- A member of Gnu. -/
def gnuV (e : Ent) (A S : Nat → Int) (hK hL h : ByteArray) (k : Int) : ByteArray :=
  if e.tn == 0 then (if k = 0 then (if spB e.sz e.dt e.pn = true then outB e hK hL ++ sealS (hhB h A S e.pn e.sz) ++ blkB (fun k => A (4 + k)) (fun k => S (4 + k)) (e.pn - 4) ++ (e.dt ++ padB e.dt.size) else outB e hK hL ++ (h ++ (e.dt ++ padB e.dt.size))) else ⟨#[]⟩) else ⟨#[]⟩
theorem padB0 : padB (⟨#[]⟩ : ByteArray).size = ⟨#[]⟩ := by decide +kernel
theorem wrnV_bare (h : ByteArray) : wrnV 0 h ⟨#[]⟩ = h := by rw [wrnV_good _ _ rfl, padB0, app_empty, app_empty]
theorem hhB_size {h : ByteArray} (hh : h.size = 512) {e : Ent} {A S : Nat → Int} (mo : MemOk e A S) : (hhB h A S e.pn e.sz).size = 512 := by
  have hR := rowQ_size mo.fits 4
  have hD : (octS e.sz 12).size = 12 := by
    have := octS_size e.sz 12 (octM12 mo.sz0 (by have := mo.sz1; omega))
    omega
  have hM := moreB_size (decide (4 < e.pn))
  unfold hhB
  rw [ByteArray.size_append, ByteArray.size_append, ByteArray.size_append, ByteArray.size_append, ByteArray.size_extract, ByteArray.size_extract, hR, hM, hD, hh]
  decide
theorem blkB_size {A S : Nat → Int} {n : Nat} (hf : Fits12 A S n) : (blkB A S n).size ≤ 1100 := by
  unfold blkB
  split
  · show 0 ≤ _
    omega
  · have := padB_size 505
    rw [ByteArray.size_append, ByteArray.size_append, ByteArray.size_append, rowQ_size hf 21, moreB_size]
    show 0 + _ ≤ _
    omega

set_option maxHeartbeats 8000000 in
set_option maxRecDepth 100000 in
theorem writeGnu_any (e : Ent) (ok : e.Ok) (A S : Nat → Int) (w : World) (hp : IsPieces w (.slice e.pa e.pn e.pc) e.pn A S) (hcap : e.pn ≤ e.pc) (mo : MemOk e A S) (hdt : e.dt.size ≤ 4009) (hK hL h : ByteArray) (k : Int)
    (HK : Wrn 3 ⟨#[]⟩ ⟨#[]⟩ 75 0 0 0 ((e.lk.size : Int) + 1) 0 0 0 longN ⟨#[]⟩ hK 0) (HL : Wrn 3 ⟨#[]⟩ ⟨#[]⟩ 76 0 0 0 (((namB e.kd e.nm).size : Int) + 1) 0 0 0 longN ⟨#[]⟩ hL 0)
    (HW : Wrn 3 e.us e.gr (kdS e) e.md e.ui e.gi e.dt.size e.ts e.ma e.mi (cutB (namB e.kd e.nm)) (cutB e.lk) h k) (hm : HasMax w) :
    Calls Tryz.prog 40 #[.agg #[.string e.nm, .int .u8 e.kd, .int .i64 e.md, .int .i64 e.ui, .int .i64 e.gi, .int .i64 e.sz, .int .i64 e.ts, .int .i64 e.tn, .string e.lk, .string e.us, .string e.gr, .int .i64 e.ma, .int .i64 e.mi, .string e.dt, .slice e.pa e.pn e.pc]] w fun x w' => x = .returned (.tuple #[.string (gnuV e A S hK hL h k), errOf (gnuE e k)]) ∧ Ext w w' := by
  have h6 := ok.pn
  have hlk := mo.lk
  have hnm := mo.nm
  have hns := namB_size e.kd e.nm
  cases htn : (e.tn == 0) with
  | false =>
    have hV : gnuV e A S hK hL h k = ⟨#[]⟩ := by unfold gnuV; rw [htn]; rfl
    have hE : gnuE e k = 2 := by unfold gnuE; rw [htn]; rfl
    have qn : (e.tn != 0) = true := by simp only [bne, htn]; rfl
    rw [hV, hE, errOf_ne (by decide)]
    clear HK HL HW mo hp hV hE
    as_aux_lemma =>
      go_enter Tryz.func40, Tryz.ntmps40
      go_wp2_with fail
      go_ret2
      exact ⟨rfl, (by show Below _ _ _; repeat' (first | (with_reducible exact Below.refl _ _) | (with_reducible assumption) | (with_reducible refine belowDrewN ?_ _) | (with_reducible refine Below.alloc ?_ ?_ _) | (with_reducible refine Below.drew ?_) | (with_reducible refine Below.setCell ?_ ?_ _) | go_size))⟩
  | true =>
    have qn : (e.tn != 0) = false := by simp only [bne, htn]; rfl
    have C1 := Lib.hid (fun B cur w hcur hm hb => short_any e.lk 75 B cur hK w (by omega) hcur hm hb HK)
    have C3 := Lib.hid (fun B cur w hcur hm hb => short_any (namB e.kd e.nm) 76 B cur hL w (by omega) hcur hm hb HL)
    have C2 := Lib.hid (fun w => memNamed_any e ok w)
    have C4 := Lib.hid (fun w => memPlain_any e ok w)
    have c5 := fun w => sparse_any e ok w
    have hz1 := longB_size (s := e.lk) (HK.1 rfl)
    have hz2 := longB_size (s := namB e.kd e.nm) (HL.1 rfl)
    have hE : gnuE e k = k := by unfold gnuE; rw [htn]; rfl
    have hO : Hid (outB e hK hL = (⟨#[]⟩ ++ longB e.lk hK) ++ longB (namB e.kd e.nm) hL) := Lib.hid rfl
    have hOz : Hid ((outB e hK hL).size ≤ 3000) := Lib.hid (by rw [hO.out, ByteArray.size_append, empty_app]; omega)
    have hz1' : (⟨#[]⟩ ++ longB e.lk hK : ByteArray).size ≤ 5000 := by rw [empty_app]; omega
    rw [hE]
    cases hsp : spB e.sz e.dt e.pn with
    | false =>
      have hks : kdS e = e.kd := by unfold kdS; rw [hsp]; rfl
      rw [hks] at HW
      have c6 := (HW.2 e.dt (by omega)).1
      rw [hsp] at c5
      have C5 := Lib.hid c5
      have hz6 := wrnV_size (k := k) (h := h) (bs := e.dt) HW.1
      by_cases hk : k = 0
      · have hV : Hid (gnuV e A S hK hL h k = outB e hK hL ++ wrnV k h e.dt) := Lib.hid (by unfold gnuV; rw [htn, if_pos rfl, if_pos hk, hsp, if_neg (by decide), wrnV_good _ _ hk])
        subst hk
        rw [hV.out, hO.out, show errOf 0 = .nilIface from rfl]
        rw [show errOf 0 = .nilIface from rfl] at c6
        have C6 := Lib.hid c6
        clear HK HL HW mo hp c6 hsp htn hks hE c5 hV hO hOz
        generalize wrnV 0 h e.dt = V at *
        generalize longB e.lk hK = LK at *
        generalize longB (namB e.kd e.nm) hL = LN at *
        generalize cutB e.lk = cl at *
        generalize cutB (namB e.kd e.nm) = cn at *
        generalize namB e.kd e.nm = nm at *
        as_aux_lemma =>
          go_enter Tryz.func40, Tryz.ntmps40
          have hb0 : Boxed ((w.alloc (.cells #[.string e.nm, .int .u8 e.kd, .int .i64 e.md, .int .i64 e.ui, .int .i64 e.gi, .int .i64 e.sz, .int .i64 e.ts, .int .i64 e.tn, .string e.lk, .string e.us, .string e.gr, .int .i64 e.ma, .int .i64 e.mi, .string e.dt, .slice e.pa e.pn e.pc] 26)).alloc (.cells #[.string ⟨#[]⟩] 9)) (w.heap.size + 1) 9 (.string ⟨#[]⟩) := by
            have := Boxed.new (w.alloc (.cells #[.string e.nm, .int .u8 e.kd, .int .i64 e.md, .int .i64 e.ui, .int .i64 e.gi, .int .i64 e.sz, .int .i64 e.ts, .int .i64 e.tn, .string e.lk, .string e.us, .string e.gr, .int .i64 e.ma, .int .i64 e.mi, .string e.dt, .slice e.pa e.pn e.pc] 26)) 9 (.string ⟨#[]⟩)
            rw [World.size_alloc] at this
            exact this
          go_wp2_with fail
          refine (C1.out _ _ _ (by decide) (hm.ext (((Ext.refl w).alloc _).alloc _)) hb0).mono ?_; rintro x w1 ⟨rfl, hb1, hB1⟩
          have hy1 := ext_of_below ((Ext.refl (w.alloc (.cells #[.string e.nm, .int .u8 e.kd, .int .i64 e.md, .int .i64 e.ui, .int .i64 e.gi, .int .i64 e.sz, .int .i64 e.ts, .int .i64 e.tn, .string e.lk, .string e.us, .string e.gr, .int .i64 e.ma, .int .i64 e.mi, .string e.dt, .slice e.pa e.pn e.pc] 26))).alloc _) hB1
          have hw1 : Ext w w1 := Ext.trans ((Ext.refl w).alloc _) hy1
          obtain ⟨⟨g10, g11, g12, g13, g14, g15, g16, g17, g18, g19, g110, g111, g112, g113, g114⟩, gl1⟩ := ent_box e hy1
          go_wp2_with fail
          refine (C2.out _).mono ?_; rintro x w2 ⟨rfl, hx2⟩
          have hb2 : Boxed w2 (w.heap.size + 1) 9 (.string (⟨#[]⟩ ++ LK)) := (hx2.block _ hb1.lt).trans hb1
          have hy2 := hy1.trans hx2
          go_wp2_with fail
          refine (C3.out _ _ _ hz1' (hm.ext (hw1.trans hx2)) hb2).mono ?_; rintro x w3 ⟨rfl, hb3, hB3⟩
          have hy3 := ext_of_below hy2 hB3
          obtain ⟨⟨g30, g31, g32, g33, g34, g35, g36, g37, g38, g39, g310, g311, g312, g313, g314⟩, gl3⟩ := ent_box e hy3
          go_wp2_with fail
          refine (C4.out _).mono ?_; rintro x w4 ⟨rfl, hx4⟩
          have hb4 : Boxed w4 (w.heap.size + 1) 9 (.string (⟨#[]⟩ ++ LK ++ LN)) := (hx4.block _ hb3.lt).trans hb3
          have hy4 := hy3.trans hx4
          obtain ⟨⟨g40, g41, g42, g43, g44, g45, g46, g47, g48, g49, g410, g411, g412, g413, g414⟩, gl4⟩ := ent_box e hy4
          go_wp2_with fail
          refine (C5.out _).mono ?_; rintro x w5 ⟨rfl, hx5⟩
          have hb5 : Boxed w5 (w.heap.size + 1) 9 (.string (⟨#[]⟩ ++ LK ++ LN)) := (hx5.block _ (hb4.alloc _).lt).trans (hb4.alloc _)
          have hy5 := (hy4.alloc _).trans hx5
          have hw5 : Ext w w5 := Ext.trans ((Ext.refl w).alloc _) hy5
          obtain ⟨⟨g50, g51, g52, g53, g54, g55, g56, g57, g58, g59, g510, g511, g512, g513, g514⟩, gl5⟩ := ent_box e hy5
          obtain ⟨⟨r0, r1, r2, r3, r4, r5, r6, r7, r8, r9, r10, r11, r12⟩, rf, rl⟩ := raw_box hx5
          go_wp2_with fail
          refine (C6.out _ (hm.ext hw5)).mono ?_; rintro x w6 ⟨rfl, hx6⟩
          have hb6 : Boxed w6 (w.heap.size + 1) 9 (.string (⟨#[]⟩ ++ LK ++ LN)) := (hx6.block _ hb5.lt).trans hb5
          have hc6 := hb6.cell
          go_wp2_with fail
          go_ret2
          exact ⟨rfl, hw5.trans hx6⟩
      · have hV : Hid (gnuV e A S hK hL h k = ⟨#[]⟩) := Lib.hid (by unfold gnuV; rw [htn, if_pos rfl, if_neg hk])
        rw [hV.out]
        rw [errOf_ne hk] at *
        have C6 := Lib.hid c6
        clear HK HL HW mo hp c6 hsp htn hks hE c5 hV hO hOz hk
        generalize wrnV k h e.dt = V at *
        generalize longB e.lk hK = LK at *
        generalize longB (namB e.kd e.nm) hL = LN at *
        generalize cutB e.lk = cl at *
        generalize cutB (namB e.kd e.nm) = cn at *
        generalize namB e.kd e.nm = nm at *
        as_aux_lemma =>
          go_enter Tryz.func40, Tryz.ntmps40
          have hb0 : Boxed ((w.alloc (.cells #[.string e.nm, .int .u8 e.kd, .int .i64 e.md, .int .i64 e.ui, .int .i64 e.gi, .int .i64 e.sz, .int .i64 e.ts, .int .i64 e.tn, .string e.lk, .string e.us, .string e.gr, .int .i64 e.ma, .int .i64 e.mi, .string e.dt, .slice e.pa e.pn e.pc] 26)).alloc (.cells #[.string ⟨#[]⟩] 9)) (w.heap.size + 1) 9 (.string ⟨#[]⟩) := by
            have := Boxed.new (w.alloc (.cells #[.string e.nm, .int .u8 e.kd, .int .i64 e.md, .int .i64 e.ui, .int .i64 e.gi, .int .i64 e.sz, .int .i64 e.ts, .int .i64 e.tn, .string e.lk, .string e.us, .string e.gr, .int .i64 e.ma, .int .i64 e.mi, .string e.dt, .slice e.pa e.pn e.pc] 26)) 9 (.string ⟨#[]⟩)
            rw [World.size_alloc] at this
            exact this
          go_wp2_with fail
          refine (C1.out _ _ _ (by decide) (hm.ext (((Ext.refl w).alloc _).alloc _)) hb0).mono ?_; rintro x w1 ⟨rfl, hb1, hB1⟩
          have hy1 := ext_of_below ((Ext.refl (w.alloc (.cells #[.string e.nm, .int .u8 e.kd, .int .i64 e.md, .int .i64 e.ui, .int .i64 e.gi, .int .i64 e.sz, .int .i64 e.ts, .int .i64 e.tn, .string e.lk, .string e.us, .string e.gr, .int .i64 e.ma, .int .i64 e.mi, .string e.dt, .slice e.pa e.pn e.pc] 26))).alloc _) hB1
          have hw1 : Ext w w1 := Ext.trans ((Ext.refl w).alloc _) hy1
          obtain ⟨⟨g10, g11, g12, g13, g14, g15, g16, g17, g18, g19, g110, g111, g112, g113, g114⟩, gl1⟩ := ent_box e hy1
          go_wp2_with fail
          refine (C2.out _).mono ?_; rintro x w2 ⟨rfl, hx2⟩
          have hb2 : Boxed w2 (w.heap.size + 1) 9 (.string (⟨#[]⟩ ++ LK)) := (hx2.block _ hb1.lt).trans hb1
          have hy2 := hy1.trans hx2
          go_wp2_with fail
          refine (C3.out _ _ _ hz1' (hm.ext (hw1.trans hx2)) hb2).mono ?_; rintro x w3 ⟨rfl, hb3, hB3⟩
          have hy3 := ext_of_below hy2 hB3
          obtain ⟨⟨g30, g31, g32, g33, g34, g35, g36, g37, g38, g39, g310, g311, g312, g313, g314⟩, gl3⟩ := ent_box e hy3
          go_wp2_with fail
          refine (C4.out _).mono ?_; rintro x w4 ⟨rfl, hx4⟩
          have hb4 : Boxed w4 (w.heap.size + 1) 9 (.string (⟨#[]⟩ ++ LK ++ LN)) := (hx4.block _ hb3.lt).trans hb3
          have hy4 := hy3.trans hx4
          obtain ⟨⟨g40, g41, g42, g43, g44, g45, g46, g47, g48, g49, g410, g411, g412, g413, g414⟩, gl4⟩ := ent_box e hy4
          go_wp2_with fail
          refine (C5.out _).mono ?_; rintro x w5 ⟨rfl, hx5⟩
          have hb5 : Boxed w5 (w.heap.size + 1) 9 (.string (⟨#[]⟩ ++ LK ++ LN)) := (hx5.block _ (hb4.alloc _).lt).trans (hb4.alloc _)
          have hy5 := (hy4.alloc _).trans hx5
          have hw5 : Ext w w5 := Ext.trans ((Ext.refl w).alloc _) hy5
          obtain ⟨⟨g50, g51, g52, g53, g54, g55, g56, g57, g58, g59, g510, g511, g512, g513, g514⟩, gl5⟩ := ent_box e hy5
          obtain ⟨⟨r0, r1, r2, r3, r4, r5, r6, r7, r8, r9, r10, r11, r12⟩, rf, rl⟩ := raw_box hx5
          go_wp2_with fail
          refine (C6.out _ (hm.ext hw5)).mono ?_; rintro x w6 ⟨rfl, hx6⟩
          have hb6 : Boxed w6 (w.heap.size + 1) 9 (.string (⟨#[]⟩ ++ LK ++ LN)) := (hx6.block _ hb5.lt).trans hb5
          have hc6 := hb6.cell
          go_wp2_with fail
          go_ret2
          exact ⟨rfl, hw5.trans hx6⟩
    | true =>
      have hks : kdS e = 83 := by unfold kdS; rw [hsp]; rfl
      rw [hks] at HW
      have c6 := (HW.2 ⟨#[]⟩ (by decide)).1
      rw [hsp] at c5
      have C5 := Lib.hid c5
      by_cases hk : k = 0
      · have hh := HW.1 hk
        have hV : Hid (gnuV e A S hK hL h k = outB e hK hL ++ sealS (hhB h A S e.pn e.sz) ++ blkB (fun k => A (4 + k)) (fun k => S (4 + k)) (e.pn - 4) ++ (e.dt ++ padB e.dt.size)) := Lib.hid (by unfold gnuV; rw [htn, if_pos rfl, if_pos hk, hsp, if_pos rfl])
        subst hk
        rw [wrnV_bare, show errOf 0 = .nilIface from rfl] at c6
        have C6 := Lib.hid c6
        have C7 := Lib.hid (fun W (hW : Ext w W) => holesHead_any h hh e A S mo hcap W (hp.ext hW))
        have hhz := hhB_size hh mo
        have c8 := fun w => seal_any (hhB h A S e.pn e.sz) w (by omega)
        rw [sumE_512 hhz, show errOf 0 = .nilIface from rfl] at c8
        have C8 := Lib.hid c8
        have C10 := Lib.hid (fun w => fill_any e.dt (by omega) w)
        have hpd := padB_size e.dt.size
        have hsz := sealS_size _ hhz
        have hn20 := mo.n20
        have Hf4 : Hid (Fits12 (fun k => A (4 + k)) (fun k => S (4 + k)) (e.pn - 4)) := Lib.hid (fun k hk => mo.fits (4 + k) (by omega))
        have Hb4 : Hid (∀ k, k < e.pn - 4 → A (4 + k) ≤ 4000 ∧ S (4 + k) ≤ 4000) := Lib.hid (fun k hk => ⟨(mo.pc (4 + k) (by omega)).2.1, (mo.pc (4 + k) (by omega)).2.2.2⟩)
        have hbz := blkB_size Hf4.out
        rw [hV.out, hO.out, show errOf 0 = .nilIface from rfl]
        obtain ⟨A4, hA4⟩ : ∃ A4 : Nat → Int, Hid (A4 = fun k => A (4 + k)) := ⟨_, Lib.hid rfl⟩
        obtain ⟨S4, hS4⟩ : ∃ S4 : Nat → Int, Hid (S4 = fun k => S (4 + k)) := ⟨_, Lib.hid rfl⟩
        rw [← hA4.out, ← hS4.out] at hbz
        rw [← hA4.out, ← hS4.out]
        clear HK HL HW mo hp c6 hsp htn hks hE c5 c8 hV hO hOz
        generalize hhB h A S e.pn e.sz = X at *
        generalize sealS X = Y at *
        generalize hBl : blkB A4 S4 (e.pn - 4) = BL at *
        generalize padB e.dt.size = PD at *
        generalize longB e.lk hK = LK at *
        generalize longB (namB e.kd e.nm) hL = LN at *
        generalize cutB e.lk = cl at *
        generalize cutB (namB e.kd e.nm) = cn at *
        generalize namB e.kd e.nm = nm at *
        as_aux_lemma =>
          go_enter Tryz.func40, Tryz.ntmps40
          have hb0 : Boxed ((w.alloc (.cells #[.string e.nm, .int .u8 e.kd, .int .i64 e.md, .int .i64 e.ui, .int .i64 e.gi, .int .i64 e.sz, .int .i64 e.ts, .int .i64 e.tn, .string e.lk, .string e.us, .string e.gr, .int .i64 e.ma, .int .i64 e.mi, .string e.dt, .slice e.pa e.pn e.pc] 26)).alloc (.cells #[.string ⟨#[]⟩] 9)) (w.heap.size + 1) 9 (.string ⟨#[]⟩) := by
            have := Boxed.new (w.alloc (.cells #[.string e.nm, .int .u8 e.kd, .int .i64 e.md, .int .i64 e.ui, .int .i64 e.gi, .int .i64 e.sz, .int .i64 e.ts, .int .i64 e.tn, .string e.lk, .string e.us, .string e.gr, .int .i64 e.ma, .int .i64 e.mi, .string e.dt, .slice e.pa e.pn e.pc] 26)) 9 (.string ⟨#[]⟩)
            rw [World.size_alloc] at this
            exact this
          go_wp2_with fail
          refine (C1.out _ _ _ (by decide) (hm.ext (((Ext.refl w).alloc _).alloc _)) hb0).mono ?_; rintro x w1 ⟨rfl, hb1, hB1⟩
          have hy1 := ext_of_below ((Ext.refl (w.alloc (.cells #[.string e.nm, .int .u8 e.kd, .int .i64 e.md, .int .i64 e.ui, .int .i64 e.gi, .int .i64 e.sz, .int .i64 e.ts, .int .i64 e.tn, .string e.lk, .string e.us, .string e.gr, .int .i64 e.ma, .int .i64 e.mi, .string e.dt, .slice e.pa e.pn e.pc] 26))).alloc _) hB1
          have hw1 : Ext w w1 := Ext.trans ((Ext.refl w).alloc _) hy1
          obtain ⟨⟨g10, g11, g12, g13, g14, g15, g16, g17, g18, g19, g110, g111, g112, g113, g114⟩, gl1⟩ := ent_box e hy1
          go_wp2_with fail
          refine (C2.out _).mono ?_; rintro x w2 ⟨rfl, hx2⟩
          have hb2 : Boxed w2 (w.heap.size + 1) 9 (.string (⟨#[]⟩ ++ LK)) := (hx2.block _ hb1.lt).trans hb1
          have hy2 := hy1.trans hx2
          go_wp2_with fail
          refine (C3.out _ _ _ hz1' (hm.ext (hw1.trans hx2)) hb2).mono ?_; rintro x w3 ⟨rfl, hb3, hB3⟩
          have hy3 := ext_of_below hy2 hB3
          obtain ⟨⟨g30, g31, g32, g33, g34, g35, g36, g37, g38, g39, g310, g311, g312, g313, g314⟩, gl3⟩ := ent_box e hy3
          go_wp2_with fail
          refine (C4.out _).mono ?_; rintro x w4 ⟨rfl, hx4⟩
          have hb4 : Boxed w4 (w.heap.size + 1) 9 (.string (⟨#[]⟩ ++ LK ++ LN)) := (hx4.block _ hb3.lt).trans hb3
          have hy4 := hy3.trans hx4
          obtain ⟨⟨g40, g41, g42, g43, g44, g45, g46, g47, g48, g49, g410, g411, g412, g413, g414⟩, gl4⟩ := ent_box e hy4
          go_wp2_with fail
          refine (C5.out _).mono ?_; rintro x w5 ⟨rfl, hx5⟩
          have hb5 : Boxed w5 (w.heap.size + 1) 9 (.string (⟨#[]⟩ ++ LK ++ LN)) := (hx5.block _ (hb4.alloc _).lt).trans (hb4.alloc _)
          have hy5 := (hy4.alloc _).trans hx5
          have hw5 : Ext w w5 := Ext.trans ((Ext.refl w).alloc _) hy5
          obtain ⟨⟨g50, g51, g52, g53, g54, g55, g56, g57, g58, g59, g510, g511, g512, g513, g514⟩, gl5⟩ := ent_box e hy5
          obtain ⟨⟨r0, r1, r2, r3, r4, r5, r6, r7, r8, r9, r10, r11, r12⟩, rf, rl⟩ := raw_box hx5
          have hx45 : Ext w4 (w5.setCell ⟨w4.heap.size, 5, none⟩ (.int .u8 83)) := (((Ext.refl w4).alloc _).trans hx5).setCell (Nat.le_refl _) _
          have hb5' : Boxed (w5.setCell ⟨w4.heap.size, 5, none⟩ (.int .u8 83)) (w.heap.size + 1) 9 (.string (⟨#[]⟩ ++ LK ++ LN)) := (hx45.block _ hb4.lt).trans hb4
          have hy5' : Ext (w.alloc (.cells #[.string e.nm, .int .u8 e.kd, .int .i64 e.md, .int .i64 e.ui, .int .i64 e.gi, .int .i64 e.sz, .int .i64 e.ts, .int .i64 e.tn, .string e.lk, .string e.us, .string e.gr, .int .i64 e.ma, .int .i64 e.mi, .string e.dt, .slice e.pa e.pn e.pc] 26)) (w5.setCell ⟨w4.heap.size, 5, none⟩ (.int .u8 83)) := hy5.setCell hy4.size _
          have hw5' : Ext w (w5.setCell ⟨w4.heap.size, 5, none⟩ (.int .u8 83)) := Ext.trans ((Ext.refl w).alloc _) hy5'
          go_wp2_with fail
          refine (C6.out _ (hm.ext hw5')).mono ?_; rintro x w6 ⟨rfl, hx6⟩
          have hb6 : Boxed w6 (w.heap.size + 1) 9 (.string (⟨#[]⟩ ++ LK ++ LN)) := (hx6.block _ hb5'.lt).trans hb5'
          have hy6 := hy5'.trans hx6
          obtain ⟨⟨g60, g61, g62, g63, g64, g65, g66, g67, g68, g69, g610, g611, g612, g613, g614⟩, gl6⟩ := ent_box e hy6
          go_wp2_with fail
          refine (C7.out _ (hw5'.trans hx6)).mono ?_; rintro x w7 ⟨ra, rc, rfl, hle, hP, hx7⟩
          have HP := Lib.hid hP
          clear hP
          go_wp2_with fail
          refine (C8.out _).mono ?_; rintro x w8 ⟨rfl, hx8⟩
          have hx78 := hx7.trans hx8
          have hb8 : Boxed w8 (w.heap.size + 1) 9 (.string (⟨#[]⟩ ++ LK ++ LN)) := (hx78.block _ hb6.lt).trans hb6
          have hc8 := hb8.cell
          have hl8 := hb8.lt
          have hy8 := hy6.trans hx78
          have hw8 := Ext.trans ((Ext.refl w).alloc _) hy8
          have C9 := Lib.hid (fun W (hW : Ext w8 W) => holesBlocks_any ra (e.pn - 4) rc hle (by omega) _ _ W (HP.out.ext (hx8.trans hW)) Hf4.out Hb4.out)
          rw [← hA4.out, ← hS4.out, hBl] at C9
          clear hBl
          obtain ⟨⟨g80, g81, g82, g83, g84, g85, g86, g87, g88, g89, g810, g811, g812, g813, g814⟩, gl8⟩ := ent_box e hy8
          clear hle
          go_wp2_with fail
          refine wp_region_det (Stood _) (by kernel_rfl) (by kernel_rfl) (Stood.start _) ?_
          repeat (first
            | (refine det_skip (by rfl) ?_; simp only [Act.put, List.setIfInBounds_toArray, List.set_cons_zero, List.set_cons_succ])
            | (refine det_op (v := ?_) rfl (by rfl) (fun w' hS => ?_) ?_; rotate_left; (focus (obtain ⟨hcl, hxt⟩ := hS; go_wp2_with (first | ((with_reducible refine (C9.out _ hxt).mono ?_); rintro e w1 ⟨rfl, hx1⟩) | ((with_reducible refine (C10.out _).mono ?_); rintro e w1 ⟨rfl, hx1⟩)); (first | refine ⟨?_, rfl, hcl, hxt⟩ | refine ⟨?_, rfl, Stood.of (hxt.trans (by assumption))⟩); (first | (simp only [List.getElem?_toArray, List.getElem?_cons_succ, List.getElem?_cons_zero]; rfl) | rfl))); simp only [Act.put, List.setIfInBounds_toArray, List.set_cons_zero, List.set_cons_succ]))
          refine det_end ?_
          intro w9 hS
          have hx9 := hS.2
          clear hS
          go_wp2_with fail
          go_ret2
          exact ⟨rfl, hw8.trans hx9⟩
      · have hV : Hid (gnuV e A S hK hL h k = ⟨#[]⟩) := Lib.hid (by unfold gnuV; rw [htn, if_pos rfl, if_neg hk])
        rw [hV.out]
        rw [errOf_ne hk] at *
        have C6 := Lib.hid c6
        clear HK HL HW mo hp c6 hsp htn hks hE c5 hV hO hOz hk
        generalize wrnV k h ⟨#[]⟩ = V at *
        generalize longB e.lk hK = LK at *
        generalize longB (namB e.kd e.nm) hL = LN at *
        generalize cutB e.lk = cl at *
        generalize cutB (namB e.kd e.nm) = cn at *
        generalize namB e.kd e.nm = nm at *
        as_aux_lemma =>
          go_enter Tryz.func40, Tryz.ntmps40
          have hb0 : Boxed ((w.alloc (.cells #[.string e.nm, .int .u8 e.kd, .int .i64 e.md, .int .i64 e.ui, .int .i64 e.gi, .int .i64 e.sz, .int .i64 e.ts, .int .i64 e.tn, .string e.lk, .string e.us, .string e.gr, .int .i64 e.ma, .int .i64 e.mi, .string e.dt, .slice e.pa e.pn e.pc] 26)).alloc (.cells #[.string ⟨#[]⟩] 9)) (w.heap.size + 1) 9 (.string ⟨#[]⟩) := by
            have := Boxed.new (w.alloc (.cells #[.string e.nm, .int .u8 e.kd, .int .i64 e.md, .int .i64 e.ui, .int .i64 e.gi, .int .i64 e.sz, .int .i64 e.ts, .int .i64 e.tn, .string e.lk, .string e.us, .string e.gr, .int .i64 e.ma, .int .i64 e.mi, .string e.dt, .slice e.pa e.pn e.pc] 26)) 9 (.string ⟨#[]⟩)
            rw [World.size_alloc] at this
            exact this
          go_wp2_with fail
          refine (C1.out _ _ _ (by decide) (hm.ext (((Ext.refl w).alloc _).alloc _)) hb0).mono ?_; rintro x w1 ⟨rfl, hb1, hB1⟩
          have hy1 := ext_of_below ((Ext.refl (w.alloc (.cells #[.string e.nm, .int .u8 e.kd, .int .i64 e.md, .int .i64 e.ui, .int .i64 e.gi, .int .i64 e.sz, .int .i64 e.ts, .int .i64 e.tn, .string e.lk, .string e.us, .string e.gr, .int .i64 e.ma, .int .i64 e.mi, .string e.dt, .slice e.pa e.pn e.pc] 26))).alloc _) hB1
          have hw1 : Ext w w1 := Ext.trans ((Ext.refl w).alloc _) hy1
          obtain ⟨⟨g10, g11, g12, g13, g14, g15, g16, g17, g18, g19, g110, g111, g112, g113, g114⟩, gl1⟩ := ent_box e hy1
          go_wp2_with fail
          refine (C2.out _).mono ?_; rintro x w2 ⟨rfl, hx2⟩
          have hb2 : Boxed w2 (w.heap.size + 1) 9 (.string (⟨#[]⟩ ++ LK)) := (hx2.block _ hb1.lt).trans hb1
          have hy2 := hy1.trans hx2
          go_wp2_with fail
          refine (C3.out _ _ _ hz1' (hm.ext (hw1.trans hx2)) hb2).mono ?_; rintro x w3 ⟨rfl, hb3, hB3⟩
          have hy3 := ext_of_below hy2 hB3
          obtain ⟨⟨g30, g31, g32, g33, g34, g35, g36, g37, g38, g39, g310, g311, g312, g313, g314⟩, gl3⟩ := ent_box e hy3
          go_wp2_with fail
          refine (C4.out _).mono ?_; rintro x w4 ⟨rfl, hx4⟩
          have hb4 : Boxed w4 (w.heap.size + 1) 9 (.string (⟨#[]⟩ ++ LK ++ LN)) := (hx4.block _ hb3.lt).trans hb3
          have hy4 := hy3.trans hx4
          obtain ⟨⟨g40, g41, g42, g43, g44, g45, g46, g47, g48, g49, g410, g411, g412, g413, g414⟩, gl4⟩ := ent_box e hy4
          go_wp2_with fail
          refine (C5.out _).mono ?_; rintro x w5 ⟨rfl, hx5⟩
          have hb5 : Boxed w5 (w.heap.size + 1) 9 (.string (⟨#[]⟩ ++ LK ++ LN)) := (hx5.block _ (hb4.alloc _).lt).trans (hb4.alloc _)
          have hy5 := (hy4.alloc _).trans hx5
          have hw5 : Ext w w5 := Ext.trans ((Ext.refl w).alloc _) hy5
          obtain ⟨⟨g50, g51, g52, g53, g54, g55, g56, g57, g58, g59, g510, g511, g512, g513, g514⟩, gl5⟩ := ent_box e hy5
          obtain ⟨⟨r0, r1, r2, r3, r4, r5, r6, r7, r8, r9, r10, r11, r12⟩, rf, rl⟩ := raw_box hx5
          have hx45 : Ext w4 (w5.setCell ⟨w4.heap.size, 5, none⟩ (.int .u8 83)) := (((Ext.refl w4).alloc _).trans hx5).setCell (Nat.le_refl _) _
          have hb5' : Boxed (w5.setCell ⟨w4.heap.size, 5, none⟩ (.int .u8 83)) (w.heap.size + 1) 9 (.string (⟨#[]⟩ ++ LK ++ LN)) := (hx45.block _ hb4.lt).trans hb4
          have hy5' : Ext (w.alloc (.cells #[.string e.nm, .int .u8 e.kd, .int .i64 e.md, .int .i64 e.ui, .int .i64 e.gi, .int .i64 e.sz, .int .i64 e.ts, .int .i64 e.tn, .string e.lk, .string e.us, .string e.gr, .int .i64 e.ma, .int .i64 e.mi, .string e.dt, .slice e.pa e.pn e.pc] 26)) (w5.setCell ⟨w4.heap.size, 5, none⟩ (.int .u8 83)) := hy5.setCell hy4.size _
          have hw5' : Ext w (w5.setCell ⟨w4.heap.size, 5, none⟩ (.int .u8 83)) := Ext.trans ((Ext.refl w).alloc _) hy5'
          go_wp2_with fail
          refine (C6.out _ (hm.ext hw5')).mono ?_; rintro x w6 ⟨rfl, hx6⟩
          go_wp2_with fail
          go_ret2
          exact ⟨rfl, hw5'.trans hx6⟩
end Go.Proofs.YtnbcbipigiopbaaGreatDoor
