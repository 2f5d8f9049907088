/-
  member.writePax: its walk. No conditions but the arguments' bounds.
-/
import Derived.Test.YtnbcbipigiopbaaGreatDoorPxV
import Derived.Test.YtnbcbipigiopbaaGreatDoorPkO
namespace Go.Proofs.YtnbcbipigiopbaaGreatDoor
open Go.RowKit Go.WideShapes

set_option maxHeartbeats 4000000 in
set_option maxRecDepth 100000 in
theorem writePax_any (e : Ent) (ok : e.Ok) (A S : Nat → Int) (w : World) (hp : IsPieces w (.slice e.pa e.pn e.pc) e.pn A S) (mo : MemOk e A S) (hdt : e.dt.size ≤ 4009) (fits : Bool) (na nb : ByteArray) (hv : splitV (namB e.kd e.nm) = .tuple #[.string na, .string nb, .bool fits])
    (sp : Bool) (hsp : spB e.sz e.dt e.pn = sp) (L : List (ByteArray × ByteArray)) (hL : recsL sp fits e.sz e.gi e.ui e.ts e.tn e.lk (namB e.kd e.nm) = L) (dat : ByteArray) (hdat : datV sp A S e.pn e.dt = dat) (h1 h2 : ByteArray) (k1 k2 : Int)
    (H1 : Wrn 4 ⟨#[]⟩ ⟨#[]⟩ 120 0 0 0 ((wrV L.length (keyF L) (valF L)).size : Int) 0 0 0 paxHd ⟨#[]⟩ h1 k1)
    (H2 : Wrn 4 e.us e.gr e.kd e.md (idV e.ui) (idV e.gi) (dat.size : Int) (tmV e.ts) e.ma e.mi (nmV fits (namB e.kd e.nm)) (cutB e.lk) h2 k2) (hm : HasMax w) (ht : HasPow w) :
    Calls Tryz.prog 41 #[.agg #[.string e.nm, .int .u8 e.kd, .int .i64 e.md, .int .i64 e.ui, .int .i64 e.gi, .int .i64 e.sz, .int .i64 e.ts, .int .i64 e.tn, .string e.lk, .string e.us, .string e.gr, .int .i64 e.ma, .int .i64 e.mi, .string e.dt, .slice e.pa e.pn e.pc]] w fun x w' => x = .returned (.tuple #[.string (paxV L k1 k2 h1 h2 dat), errOf (paxE L k1 k2)]) ∧ Ext w w' := by
  have h6 := ok.pn
  have hns := namB_size e.kd e.nm
  have hnm := mo.nm
  have hlk := mo.lk
  have CR := Lib.hid (fun W (hE : Ext w W) => records_any e ok A S W mo (ht.ext hE) fits na nb hv)
  rw [hsp, hL] at CR
  have hls : ShortL L := by rw [← hL]; exact recsL_short mo.sz0 mo.sz1 mo.gi0 mo.gi1 mo.ui0 mo.ui1 (by omega) (by omega)
  have hll : L.length ≤ 8 := by rw [← hL]; exact recsL_len _ _ _ _ _ _ _ _ _
  have hwz := wrV_size hll
  have CW := Lib.hid (fun W v (h : IsPrs W v L) hp => paxWrite_n W v L.length (keyF L) (valF L) (h.pairs hls (by omega)) (short_of hls) hp)
  have C1 := Lib.hid (fun w => memNamed_any e ok w)
  have C2 := Lib.hid (fun w => memPlain_any e ok w)
  have c3 := fun w => sparse_any e ok w
  rw [hsp] at c3
  have C3 := Lib.hid c3
  have c8 := fun w => most_any 8 w
  have c9 := fun w => most_any 12 w
  rw [mostE.1] at c8
  rw [mostE.2] at c9
  have CM8 := Lib.hid c8
  have CM9 := Lib.hid c9
  have CI := Lib.hid (fun w => memWithin_ext w e.ts 0 8589934591)
  have c4 := fun w => split_any (namB e.kd e.nm) (by omega) w
  rw [hv] at c4
  have C4 := Lib.hid c4
  have CL := Lib.hid (fun W (hE : Ext w W) ht => lines_any e.pa e.pn e.pc A S W (hp.ext hE) mo.n20 mo.pc ht)
  have hlz := linB_size mo.n20 mo.pc
  have hdz : dat.size ≤ 5300 := by rw [← hdat]; have := datV_size (sp := sp) (dt := e.dt) mo.n20 mo.pc; omega
  have c5 := (H2.2 dat (by omega)).1
  have c6 := (H1.2 (wrV L.length (keyF L) (valF L)) (by omega)).1
  have hz5 := wrnV_size (k := k2) (h := h2) (bs := dat) H2.1
  have hz6 := wrnV_size (k := k1) (h := h1) (bs := wrV L.length (keyF L) (valF L)) H1.1
  obtain ⟨uu, huu⟩ : ∃ u, u = idV e.ui := ⟨_, rfl⟩
  obtain ⟨ii, hii⟩ : ∃ u, u = idV e.gi := ⟨_, rfl⟩
  obtain ⟨tt, htt⟩ : ∃ u, u = tmV e.ts := ⟨_, rfl⟩
  rw [← huu, ← hii, ← htt] at c5
  have uuY : Hid (decide (2097151 < e.ui) = true → uu = 0) := Lib.hid (fun h => by rw [huu]; exact if_pos (by simpa using h))
  have uuN : Hid (decide (2097151 < e.ui) = false → uu = e.ui) := Lib.hid (fun h => by rw [huu]; exact if_neg (by simpa using h))
  have iiY : Hid (decide (2097151 < e.gi) = true → ii = 0) := Lib.hid (fun h => by rw [hii]; exact if_pos (by simpa using h))
  have iiN : Hid (decide (2097151 < e.gi) = false → ii = e.gi) := Lib.hid (fun h => by rw [hii]; exact if_neg (by simpa using h))
  generalize hrg : rngB e.ts 0 8589934591 = rg at *
  have ttY : Hid ((!rg) = true → tt = 0) := Lib.hid (fun h => by rw [htt]; unfold tmV; rw [hrg]; cases rg <;> simp_all)
  have ttN : Hid ((!rg) = false → tt = e.ts) := Lib.hid (fun h => by rw [htt]; unfold tmV; rw [hrg]; cases rg <;> simp_all)
  clear huu hii htt hrg
  have hdT : sp = true → dat = linB A S e.pn ++ e.dt := fun h => by rw [← hdat, h]; rfl
  have hdF : sp = false → dat = e.dt := fun h => by rw [← hdat, h]; rfl
  have HdT := Lib.hid hdT
  have HdF := Lib.hid hdF
  have hnT : fits = true → nmV fits (namB e.kd e.nm) = namB e.kd e.nm := fun h => by rw [h]; rfl
  have hnF : fits = false → nmV fits (namB e.kd e.nm) = paxNm := fun h => by rw [h]; rfl
  have f1 : L.length ≠ 0 → wrE L.length (keyF L) (valF L) ≠ 0 → paxV L k1 k2 h1 h2 dat = ⟨#[]⟩ ∧ paxE L k1 k2 = 2 := fun a b => by
    have h : paxE1 L k1 = 2 := by unfold paxE1; rw [if_neg a, if_neg b]
    constructor
    · unfold paxV; rw [h, if_neg (by decide)]
    · unfold paxE; rw [h, if_neg (by decide)]
  have f2 : L.length ≠ 0 → wrE L.length (keyF L) (valF L) = 0 → k1 ≠ 0 → paxV L k1 k2 h1 h2 dat = ⟨#[]⟩ ∧ paxE L k1 k2 = k1 := fun a b c => by
    have h : paxE1 L k1 = k1 := by unfold paxE1; rw [if_neg a, if_pos b]
    constructor
    · unfold paxV; rw [h, if_neg c]
    · unfold paxE; rw [h, if_neg c]
  have f3 : L.length = 0 → paxO L k1 h1 = ⟨#[]⟩ ∧ paxE1 L k1 = 0 := fun a => ⟨by unfold paxO; rw [if_pos a], by unfold paxE1; rw [if_pos a]⟩
  have f4 : L.length ≠ 0 → wrE L.length (keyF L) (valF L) = 0 → k1 = 0 → paxO L k1 h1 = wrnV k1 h1 (wrV L.length (keyF L) (valF L)) ∧ paxE1 L k1 = 0 := fun a b c => ⟨by unfold paxO; rw [if_neg a], by unfold paxE1; rw [if_neg a, if_pos b, c]⟩
  have f5 : paxE1 L k1 = 0 → k2 = 0 → paxV L k1 k2 h1 h2 dat = paxO L k1 h1 ++ wrnV k2 h2 dat ∧ paxE L k1 k2 = 0 := fun a b => ⟨by unfold paxV; rw [if_pos a, if_pos b], by unfold paxE; rw [if_pos a, b]⟩
  have f6 : paxE1 L k1 = 0 → k2 ≠ 0 → paxV L k1 k2 h1 h2 dat = ⟨#[]⟩ ∧ paxE L k1 k2 = k2 := fun a b => ⟨by unfold paxV; rw [if_pos a, if_neg b], by unfold paxE; rw [if_pos a]⟩
  have hoz : (paxO L k1 h1).size ≤ 4000 := by
    unfold paxO
    split
    · show 0 ≤ _
      omega
    · omega
  have F1 := Lib.hid f1
  have F2 := Lib.hid f2
  have F3 := Lib.hid f3
  have F4 := Lib.hid f4
  have F5 := Lib.hid f5
  have F6 := Lib.hid f6
  clear f1 f2 f3 f4 f5 f6 hdT hdF
  generalize paxV L k1 k2 h1 h2 dat = RV at *
  generalize paxE L k1 k2 = RE at *
  generalize paxE1 L k1 = E1 at *
  generalize paxO L k1 h1 = RO at *
  generalize wrV L.length (keyF L) (valF L) = WV at *
  generalize wrE L.length (keyF L) (valF L) = WE at *
  generalize wrP L.length (keyF L) (valF L) = WP at *
  generalize nmV fits (namB e.kd e.nm) = nmv at *
  generalize namB e.kd e.nm = NM at *
  have HnT := Lib.hid hnT
  have HnF := Lib.hid hnF
  obtain ⟨q, hq⟩ : ∃ q, q = min 100 e.lk.size := ⟨_, rfl⟩
  have hcq : cutB e.lk = e.lk.extract 0 q := by rw [hq]; rfl
  rw [hcq] at c5
  have hmq : min (100 : Int) (e.lk.size : Int) = (q : Int) := by omega
  have hqs : (q : Int) ≤ (e.lk.size : Int) := by omega
  have C6 := Lib.hid c6
  generalize hll0 : L.length = ln at *
  have HP := Lib.hid hp
  have HH2 : Hid (k2 = 0 → wrnV k2 h2 dat = wrnV 0 h2 dat) := Lib.hid (fun h => by rw [h])
  generalize wrnV k2 h2 dat = V2 at *
  generalize wrnV k1 h1 WV = V1 at *
  generalize linB A S e.pn = LN at *
  clear hq hcq hnT hnF c3 c4 c6 c8 c9 H1 H2 hdat hL hsp hv hls hp HH2
  go_enter Tryz.func41, Tryz.ntmps41
  go_wp2_with fail
  refine (CR.out _ ((Ext.refl _).alloc _)).mono ?_; rintro x wA ⟨v, rfl, hPr, hyA⟩
  have hPl := hPr.open
  rw [hll0] at hPl
  obtain ⟨oa, cap, rfl⟩ := hPl
  have hEntA : Ext (w.alloc (.cells #[.string e.nm, .int .u8 e.kd, .int .i64 e.md, .int .i64 e.ui, .int .i64 e.gi, .int .i64 e.sz, .int .i64 e.ts, .int .i64 e.tn, .string e.lk, .string e.us, .string e.gr, .int .i64 e.ma, .int .i64 e.mi, .string e.dt, .slice e.pa e.pn e.pc] 26)) wA := hyA
  have hwA : Ext w wA := Ext.trans ((Ext.refl w).alloc _) hyA
  have HPr := Lib.hid hPr
  clear hPr
  go_upto_if 20 with fail
  go_cut [4] (fun s wx => s = .string RO ∧ Hid (E1 = 0) ∧ Ext wA wx)
  case first =>
    by_cases hl0 : ln = 0
    · have q0 : decide ((0 : Int) < (ln : Int)) = false := decide_eq_false (by omega)
      obtain ⟨o1, o2⟩ := F3.out hl0
      go_wp2_with fail
      go_meet
      exact ⟨by rw [o1], Lib.hid o2, Ext.refl _⟩
    · have q0 : decide ((0 : Int) < (ln : Int)) = true := decide_eq_true (by omega)
      go_wp2_with fail
      refine (CW.out _ _ HPr.out (ht.ext hwA)).mono ?_; rintro x wB ⟨v1, rfl, hEr, hN, hxB⟩
      by_cases hw : WE = 0
      · obtain rfl := hN hw
        have HF4 := Lib.hid (F4.out hl0 hw)
        have HF2 := Lib.hid (F2.out hl0 hw)
        clear hEr hN F1 F2 F3 F4 F5 F6
        go_wp2_with fail
        refine (C6.out _ (hm.ext (hwA.trans hxB))).mono ?_; rintro x wC ⟨rfl, hxC⟩
        by_cases hk : k1 = 0
        · obtain ⟨o1, o2⟩ := HF4.out hk
          rw [hk, show errOf 0 = .nilIface from rfl]
          clear HF2 HF4 hk
          go_wp2_with fail
          go_meet
          exact ⟨by rw [o1], Lib.hid o2, hxB.trans hxC⟩
        · obtain ⟨o1, o2⟩ := HF2.out hk
          rw [errOf_ne hk]
          have HO := Lib.hid (And.intro o1 o2)
          have Hk := Lib.hid hk
          clear HF2 HF4 hk o1 o2
          go_wp2_with fail
          go_ret2
          exact ⟨by rw [HO.out.1, HO.out.2, errOf_ne Hk.out]; rfl, hwA.trans (hxB.trans hxC)⟩
      · have HO := Lib.hid (F1.out hl0 hw)
        clear hN F1 F2 F3 F4 F5 F6
        rcases hEr with ⟨_, hv⟩ | ⟨b, hv, _⟩
        · rw [errOf_ne hw] at hv
          subst hv
          go_wp2_with fail
          go_ret2
          exact ⟨by rw [HO.out.1, HO.out.2]; rfl, hwA.trans hxB⟩
        · subst hv
          go_wp2_with fail
          go_ret2
          exact ⟨by rw [HO.out.1, HO.out.2]; rfl, hwA.trans hxB⟩
  case rest =>
    obtain ⟨rfl, hE1z, hcx⟩ := hcut
    clear F1 F2 F3 F4 CW CR HPr
    have hEntC := hEntA.trans hcx
    obtain ⟨⟨gA0, gA1, gA2, gA3, gA4, gA5, gA6, gA7, gA8, gA9, gA10, gA11, gA12, gA13, gA14⟩, glA⟩ := ent_box e hEntC
    go_wp2_with fail
    refine wp_region_detB (MadeS _ (#[.string ⟨#[]⟩, .string ⟨#[]⟩, .string (⟨#[]⟩ : ByteArray), .string (⟨#[]⟩ : ByteArray), .string ⟨#[]⟩, .int .u8 0, .int .i64 0, .int .i64 0, .int .i64 0, .int .i64 0, .int .i64 0, .int .i64 0, .int .i64 0]) (#[.string ⟨#[]⟩, .string ⟨#[]⟩, .string e.us, .string e.gr, .string ⟨#[]⟩, .int .u8 e.kd, .int .i64 e.md, .int .i64 e.ui, .int .i64 e.gi, .int .i64 (e.dt.size : Int), .int .i64 e.ts, .int .i64 e.ma, .int .i64 e.mi]) 76) false 9 6 7 (by kernel_rfl) (by kernel_rfl) (MadeS.start _) ?_
    simp only [List.take_succ_cons, List.take_zero, List.drop_succ_cons, List.drop_zero]
    repeat (first
      | (refine detB_skip (by decide) (by decide) (by rfl) ?_; simp only [Act.put, List.setIfInBounds_toArray, List.set_cons_zero, List.set_cons_succ])
      | (refine detB_plain (v := ?_) (by decide) (by decide) rfl (by rfl) (fun _ _ w' hS => ?_) ?_; rotate_left; (focus (have hcl := hS.1; have hxt := hS.2.1; go_wp2_with (first | ((with_reducible refine (C2.out _).mono ?_); rintro e w1 ⟨rfl, hx1⟩) | ((with_reducible refine (C1.out _).mono ?_); rintro e w1 ⟨rfl, hx1⟩)); (first | refine ⟨?_, rfl, hS⟩ | refine ⟨?_, rfl, hS.ext (by assumption)⟩); (first | (simp only [List.getElem?_toArray, List.getElem?_cons_succ, List.getElem?_cons_zero]; rfl) | rfl))); simp only [Act.put, List.setIfInBounds_toArray, List.set_cons_zero, List.set_cons_succ]))
    refine detB_alloc (t := 76) (cs := #[.string ⟨#[]⟩, .string ⟨#[]⟩, .string (⟨#[]⟩ : ByteArray), .string (⟨#[]⟩ : ByteArray), .string ⟨#[]⟩, .int .u8 0, .int .i64 0, .int .i64 0, .int .i64 0, .int .i64 0, .int .i64 0, .int .i64 0, .int .i64 0]) rfl (by rfl) (fun w9 => by rfl) (fun b9 w9 hS => hS.made) (fun u => ?_)
    simp only [Act.put, List.setIfInBounds_toArray, List.set_cons_zero, List.set_cons_succ]
    refine detB_store rfl (by rfl) (MadeS.store 76 (.tmp 8) (.tmp 41) rfl (by rfl) (by rfl) (by rfl) rfl (by simp [Value.oneCell'])) ?_
    simp only [Act.put]
    repeat (first
      | (refine detB_skip (by decide) (by decide) (by rfl) ?_; simp only [Act.put, List.setIfInBounds_toArray, List.set_cons_zero, List.set_cons_succ])
      | (refine detB_plain (v := ?_) (by decide) (by decide) rfl (by rfl) (fun _ _ w' hS => ?_) ?_; rotate_left; (focus (have hcl := hS.1; have hxt := hS.2.1; go_wp2_with (first | ((with_reducible refine (C2.out _).mono ?_); rintro e w1 ⟨rfl, hx1⟩) | ((with_reducible refine (C1.out _).mono ?_); rintro e w1 ⟨rfl, hx1⟩)); (first | refine ⟨?_, rfl, hS⟩ | refine ⟨?_, rfl, hS.ext (by assumption)⟩); (first | (simp only [List.getElem?_toArray, List.getElem?_cons_succ, List.getElem?_cons_zero]; rfl) | rfl))); simp only [Act.put, List.setIfInBounds_toArray, List.set_cons_zero, List.set_cons_succ]))
    refine detB_end ?_
    intro w5 hS5
    obtain ⟨g, rfl, hgl', hgr⟩ := hS5.2.2.2 u rfl
    have hE1 := hcx.trans hS5.2.1
    have hgl := Nat.le_trans hcx.size hgl'
    have HR1 := Lib.hid (show w5.heap[g]? = some (.cells (rawA ⟨#[]⟩ ⟨#[]⟩ e.us e.gr ⟨#[]⟩ e.kd e.md e.ui e.gi (e.dt.size : Int) e.ts e.ma e.mi) 76 (0, 0)) from hgr)
    clear hS5
    clear hgr gA0 gA1 gA2 gA3 gA4 gA5 gA6 gA7 gA8 gA9 gA10 gA11 gA12 gA13 gA14 glA
    have c1 : _ = some (Value.int .i64 e.ui) := row_cell HR1.out (i := 7) rfl
    have cl1 := lt_of_block HR1.out
    go_wp2_with fail
    refine wp_region_det (Stood _) (by kernel_rfl) (by kernel_rfl) (Stood.start _) ?_
    repeat (first
      | (refine det_skip (by rfl) ?_; simp only [Act.put, List.setIfInBounds_toArray, List.set_cons_zero, List.set_cons_succ])
      | (refine det_op (v := ?_) rfl (by rfl) (fun w' hS => ?_) ?_; rotate_left; (focus (obtain ⟨hcl, hxt⟩ := hS; go_wp2_with (first | ((with_reducible refine (CM8.out _).mono ?_); rintro e w1 ⟨rfl, hx1⟩)); (first | refine ⟨?_, rfl, hcl, hxt⟩ | refine ⟨?_, rfl, Stood.of (hxt.trans (by assumption))⟩); (first | (simp only [List.getElem?_toArray, List.getElem?_cons_succ, List.getElem?_cons_zero]; rfl) | rfl))); simp only [Act.put, List.setIfInBounds_toArray, List.set_cons_zero, List.set_cons_succ]))
    refine det_end ?_
    intro wd1 hS
    have hxd := hS.2
    clear hS c1 cl1
    have HD1 : Hid (wd1.heap[g]? = some (.cells (rawA ⟨#[]⟩ ⟨#[]⟩ e.us e.gr ⟨#[]⟩ e.kd e.md e.ui e.gi (e.dt.size : Int) e.ts e.ma e.mi) 76 (0, 0))) := Lib.hid ((hxd.block _ (lt_of_block HR1.out)).trans HR1.out)
    have hd1 := hE1.trans hxd
    have c1 : _ = some (Value.int .i64 e.ui) := row_cell HD1.out (i := 7) rfl
    have f1 := row_free HD1.out (i := 7)
    have cl1 := lt_of_block HD1.out
    go_upto_if 49 with fail
    go_cut [] (fun wx => Hid (wx.heap[g]? = some (.cells (rawA ⟨#[]⟩ ⟨#[]⟩ e.us e.gr ⟨#[]⟩ e.kd e.md uu e.gi (e.dt.size : Int) e.ts e.ma e.mi) 76 (0, 0))) ∧ Ext wA wx)
    case first =>
      go_wp2_with fail
      · have hz : decide (2097151 < e.ui) = true := by first | assumption | exact decide_eq_true (by assumption) | (simp; assumption) | (simp; omega)
        go_meet
        exact ⟨Lib.hid (by rw [uuY.out hz]; exact cells_setCell HD1.out), hd1.setCell hgl _⟩
      · have hz : decide (2097151 < e.ui) = false := by first | assumption | exact decide_eq_false (by assumption) | (simp; assumption) | (simp; omega)
        go_meet
        exact ⟨Lib.hid (by rw [uuN.out hz]; exact HD1.out), hd1⟩
    case rest =>
      obtain ⟨HR2, hE2⟩ := hcut
      have c2 : _ = some (Value.int .i64 e.gi) := row_cell HR2.out (i := 8) rfl
      have cl2 := lt_of_block HR2.out
      go_wp2_with fail
      refine wp_region_det (Stood _) (by kernel_rfl) (by kernel_rfl) (Stood.start _) ?_
      repeat (first
        | (refine det_skip (by rfl) ?_; simp only [Act.put, List.setIfInBounds_toArray, List.set_cons_zero, List.set_cons_succ])
        | (refine det_op (v := ?_) rfl (by rfl) (fun w' hS => ?_) ?_; rotate_left; (focus (obtain ⟨hcl, hxt⟩ := hS; go_wp2_with (first | ((with_reducible refine (CM8.out _).mono ?_); rintro e w1 ⟨rfl, hx1⟩)); (first | refine ⟨?_, rfl, hcl, hxt⟩ | refine ⟨?_, rfl, Stood.of (hxt.trans (by assumption))⟩); (first | (simp only [List.getElem?_toArray, List.getElem?_cons_succ, List.getElem?_cons_zero]; rfl) | rfl))); simp only [Act.put, List.setIfInBounds_toArray, List.set_cons_zero, List.set_cons_succ]))
      refine det_end ?_
      intro wd2 hS
      have hxd := hS.2
      clear hS c2 cl2
      have HD2 : Hid (wd2.heap[g]? = some (.cells (rawA ⟨#[]⟩ ⟨#[]⟩ e.us e.gr ⟨#[]⟩ e.kd e.md uu e.gi (e.dt.size : Int) e.ts e.ma e.mi) 76 (0, 0))) := Lib.hid ((hxd.block _ (lt_of_block HR2.out)).trans HR2.out)
      have hd2 := hE2.trans hxd
      have c2 : _ = some (Value.int .i64 e.gi) := row_cell HD2.out (i := 8) rfl
      have f2 := row_free HD2.out (i := 8)
      have cl2 := lt_of_block HD2.out
      go_upto_if 54 with fail
      go_cut [] (fun wx => Hid (wx.heap[g]? = some (.cells (rawA ⟨#[]⟩ ⟨#[]⟩ e.us e.gr ⟨#[]⟩ e.kd e.md uu ii (e.dt.size : Int) e.ts e.ma e.mi) 76 (0, 0))) ∧ Ext wA wx)
      case first =>
        go_wp2_with fail
        · have hz : decide (2097151 < e.gi) = true := by first | assumption | exact decide_eq_true (by assumption) | (simp; assumption) | (simp; omega)
          go_meet
          exact ⟨Lib.hid (by rw [iiY.out hz]; exact cells_setCell HD2.out), hd2.setCell hgl _⟩
        · have hz : decide (2097151 < e.gi) = false := by first | assumption | exact decide_eq_false (by assumption) | (simp; assumption) | (simp; omega)
          go_meet
          exact ⟨Lib.hid (by rw [iiN.out hz]; exact HD2.out), hd2⟩
      case rest =>
        obtain ⟨HR3, hE3⟩ := hcut
        have c3 : _ = some (Value.int .i64 e.ts) := row_cell HR3.out (i := 10) rfl
        have cl3 := lt_of_block HR3.out
        go_wp2_with fail
        refine wp_region_det (Stood _) (by kernel_rfl) (by kernel_rfl) (Stood.start _) ?_
        repeat (first
          | (refine det_skip (by rfl) ?_; simp only [Act.put, List.setIfInBounds_toArray, List.set_cons_zero, List.set_cons_succ])
          | (refine det_op (v := ?_) rfl (by rfl) (fun w' hS => ?_) ?_; rotate_left; (focus (obtain ⟨hcl, hxt⟩ := hS; go_wp2_with (first | ((with_reducible refine (CM9.out _).mono ?_); rintro e w1 ⟨rfl, hx1⟩) | ((with_reducible refine (CI.out _).mono ?_); rintro e w1 ⟨rfl, hx1⟩)); (first | refine ⟨?_, rfl, hcl, hxt⟩ | refine ⟨?_, rfl, Stood.of (hxt.trans (by assumption))⟩); (first | (simp only [List.getElem?_toArray, List.getElem?_cons_succ, List.getElem?_cons_zero]; rfl) | rfl))); simp only [Act.put, List.setIfInBounds_toArray, List.set_cons_zero, List.set_cons_succ]))
        refine det_end ?_
        intro wd3 hS
        have hxd := hS.2
        clear hS c3 cl3
        have HD3 : Hid (wd3.heap[g]? = some (.cells (rawA ⟨#[]⟩ ⟨#[]⟩ e.us e.gr ⟨#[]⟩ e.kd e.md uu ii (e.dt.size : Int) e.ts e.ma e.mi) 76 (0, 0))) := Lib.hid ((hxd.block _ (lt_of_block HR3.out)).trans HR3.out)
        have hd3 := hE3.trans hxd
        have c3 : _ = some (Value.int .i64 e.ts) := row_cell HD3.out (i := 10) rfl
        have f3 := row_free HD3.out (i := 10)
        have cl3 := lt_of_block HD3.out
        go_upto_if 60 with fail
        go_cut [] (fun wx => Hid (wx.heap[g]? = some (.cells (rawA ⟨#[]⟩ ⟨#[]⟩ e.us e.gr ⟨#[]⟩ e.kd e.md uu ii (e.dt.size : Int) tt e.ma e.mi) 76 (0, 0))) ∧ Ext wA wx)
        case first =>
          go_wp2_with fail
          · have hz : (!rg) = true := by first | assumption | exact decide_eq_true (by assumption) | (simp; assumption) | (simp; omega)
            go_meet
            exact ⟨Lib.hid (by rw [ttY.out hz]; exact cells_setCell HD3.out), hd3.setCell hgl _⟩
          · have hz : (!rg) = false := by first | assumption | exact decide_eq_false (by assumption) | (simp; assumption) | (simp; omega)
            go_meet
            exact ⟨Lib.hid (by rw [ttN.out hz]; exact HD3.out), hd3⟩
        case rest =>
          obtain ⟨HR4, hE4⟩ := hcut
          go_wp2_with fail
          refine (C4.out _).mono ?_; rintro x wS ⟨rfl, hxS⟩
          have HRS : Hid (wS.heap[g]? = some (.cells (rawA ⟨#[]⟩ ⟨#[]⟩ e.us e.gr ⟨#[]⟩ e.kd e.md uu ii (e.dt.size : Int) tt e.ma e.mi) 76 (0, 0))) := Lib.hid ((hxS.block _ (lt_of_block HR4.out)).trans HR4.out)
          have hES := hE4.trans hxS
          go_upto_if 69 with fail
          go_cut [9, 13] (fun s _ wx => s = .string nmv ∧ wx = wS)
          case first =>
            cases hf : fits with
            | true =>
              go_wp2_with fail
              go_meet
              exact ⟨by rw [HnT.out hf], rfl⟩
            | false =>
              go_wp2_with fail
              go_meet
              exact ⟨by rw [HnF.out hf]; rfl, rfl⟩
          case rest =>
            obtain ⟨rfl, hw9⟩ := hcut
            rw [hw9]
            clear hw9
            have hEntS := hEntA.trans hES
            obtain ⟨⟨gS0, gS1, gS2, gS3, gS4, gS5, gS6, gS7, gS8, gS9, gS10, gS11, gS12, gS13, gS14⟩, glS⟩ := ent_box e hEntS
            go_wp2_with fail
            refine (C3.out _).mono ?_; rintro x wT ⟨rfl, hxT⟩
            clear gS0 gS1 gS2 gS3 gS4 gS5 gS6 gS7 gS8 gS9 gS10 gS11 gS12 gS13 gS14 glS
            have HRT : Hid (wT.heap[g]? = some (.cells (rawA ⟨#[]⟩ ⟨#[]⟩ e.us e.gr ⟨#[]⟩ e.kd e.md uu ii (e.dt.size : Int) tt e.ma e.mi) 76 (0, 0))) := Lib.hid ((hxT.block _ (lt_of_block HRS.out)).trans HRS.out)
            have hET := hES.trans hxT
            have hEntT := hEntA.trans hET
            obtain ⟨⟨gT0, gT1, gT2, gT3, gT4, gT5, gT6, gT7, gT8, gT9, gT10, gT11, gT12, gT13, gT14⟩, glT⟩ := ent_box e hEntT
            go_upto_if 71 with fail
            go_cut [10] (fun s wx => s = .string dat ∧ Hid (wx.heap[g]? = some (.cells (rawA ⟨#[]⟩ ⟨#[]⟩ e.us e.gr ⟨#[]⟩ e.kd e.md uu ii (dat.size : Int) tt e.ma e.mi) 76 (0, 0))) ∧ Ext wA wx)
            case first =>
              cases hs : sp with
              | true =>
                go_wp2_with fail
                refine (CL.out _ (hwA.trans hET) (ht.ext (hwA.trans hET))).mono ?_; rintro x wL ⟨rfl, hxL⟩
                clear gT0 gT1 gT2 gT3 gT4 gT5 gT6 gT7 gT8 gT9 gT10 gT11 gT12 gT13 gT14 glT
                have HRL : Hid (wL.heap[g]? = some (.cells (rawA ⟨#[]⟩ ⟨#[]⟩ e.us e.gr ⟨#[]⟩ e.kd e.md uu ii (e.dt.size : Int) tt e.ma e.mi) 76 (0, 0))) := Lib.hid ((hxL.block _ (lt_of_block HRT.out)).trans HRT.out)
                have c9 : _ = some (Value.int .i64 (e.dt.size : Int)) := row_cell HRL.out (i := 9) rfl
                have f9 := row_free HRL.out (i := 9)
                have cl9 := lt_of_block HRL.out
                have hd9 := HdT.out hs
                have hz9 : LN.size + e.dt.size ≤ 5300 := by rw [hd9, ByteArray.size_append] at hdz; exact hdz
                have Hd9 := Lib.hid hd9
                clear hd9
                go_wp2_with fail
                go_meet
                exact ⟨by rw [Hd9.out], Lib.hid (by rw [Hd9.out, ByteArray.size_append]; first | exact cells_setCell HRL.out | (rw [Int.natCast_add]; exact cells_setCell HRL.out)), (hET.trans hxL).setCell hgl _⟩
              | false =>
                go_wp2_with fail
                go_meet
                exact ⟨by rw [HdF.out hs], Lib.hid (by rw [HdF.out hs]; exact HRT.out), hET⟩
            case rest =>
              obtain ⟨rfl, HR6, hE6⟩ := hcut
              clear gT0 gT1 gT2 gT3 gT4 gT5 gT6 gT7 gT8 gT9 gT10 gT11 gT12 gT13 gT14 glT
              obtain ⟨⟨r0, r1, r2, r3, r4, r5, r6, r7, r8, r9, r10, r11, r12⟩, rl⟩ := rawA_box HR6.out
              have hEnt6 := hEntA.trans hE6
              have gL := hEnt6.cell (show (w.alloc (.cells #[.string e.nm, .int .u8 e.kd, .int .i64 e.md, .int .i64 e.ui, .int .i64 e.gi, .int .i64 e.sz, .int .i64 e.ts, .int .i64 e.tn, .string e.lk, .string e.us, .string e.gr, .int .i64 e.ma, .int .i64 e.mi, .string e.dt, .slice e.pa e.pn e.pc] 26)).cell? ⟨w.heap.size, 8, none⟩ = some (.string e.lk) by simp)
              have gl6 := World.block_lt_of_cell? _ _ gL
              by_cases hk2 : k2 = 0
              · have HO := Lib.hid (F5.out hE1z.out hk2)
                rw [hk2, show errOf 0 = .nilIface from rfl] at c5
                have C5 := Lib.hid c5
                clear F5 F6 c5 hk2
                go_wp2_with fail
                refine wp_region_det (Stood _) (by kernel_rfl) (by kernel_rfl) (Stood.start _) ?_
                repeat (first
                  | (refine det_skip (by rfl) ?_; simp only [Act.put, List.setIfInBounds_toArray, List.set_cons_zero, List.set_cons_succ])
                  | (refine det_op (v := ?_) rfl (by rfl) (fun w' hS => ?_) ?_; rotate_left; (focus (obtain ⟨hcl, hxt⟩ := hS; go_wp2_with (first | ((with_reducible refine (C5.out _ (hm.ext ((hwA.trans hE6).trans hxt))).mono ?_); rintro e w1 ⟨rfl, hx1⟩)); (first | refine ⟨?_, rfl, hcl, hxt⟩ | refine ⟨?_, rfl, Stood.of (hxt.trans (by assumption))⟩); (first | (simp only [List.getElem?_toArray, List.getElem?_cons_succ, List.getElem?_cons_zero]; rfl) | rfl))); simp only [Act.put, List.setIfInBounds_toArray, List.set_cons_zero, List.set_cons_succ]))
                refine det_end ?_
                intro w7 hS
                have hx7 := hS.2
                clear hS
                go_wp2_with fail
                go_ret2
                exact ⟨by rw [HO.out.1, HO.out.2]; rfl, (hwA.trans hE6).trans hx7⟩
              · have HO := Lib.hid (F6.out hE1z.out hk2)
                rw [errOf_ne hk2] at c5
                have C5 := Lib.hid c5
                have Hk2 := Lib.hid hk2
                clear F5 F6 c5 hk2
                go_wp2_with fail
                refine wp_region_det (Stood _) (by kernel_rfl) (by kernel_rfl) (Stood.start _) ?_
                repeat (first
                  | (refine det_skip (by rfl) ?_; simp only [Act.put, List.setIfInBounds_toArray, List.set_cons_zero, List.set_cons_succ])
                  | (refine det_op (v := ?_) rfl (by rfl) (fun w' hS => ?_) ?_; rotate_left; (focus (obtain ⟨hcl, hxt⟩ := hS; go_wp2_with (first | ((with_reducible refine (C5.out _ (hm.ext ((hwA.trans hE6).trans hxt))).mono ?_); rintro e w1 ⟨rfl, hx1⟩)); (first | refine ⟨?_, rfl, hcl, hxt⟩ | refine ⟨?_, rfl, Stood.of (hxt.trans (by assumption))⟩); (first | (simp only [List.getElem?_toArray, List.getElem?_cons_succ, List.getElem?_cons_zero]; rfl) | rfl))); simp only [Act.put, List.setIfInBounds_toArray, List.set_cons_zero, List.set_cons_succ]))
                refine det_end ?_
                intro w7 hS
                have hx7 := hS.2
                clear hS
                go_wp2_with fail
                go_ret2
                exact ⟨by rw [HO.out.1, HO.out.2, errOf_ne Hk2.out]; rfl, (hwA.trans hE6).trans hx7⟩
end Go.Proofs.YtnbcbipigiopbaaGreatDoor
