/-
  The reference's HeadRead: its walk at dialect 3 (written by hrrgen.py). No conditions but the text's length.
-/
import Derived.Test.YtiiaoagobjgkiaaGreatDoorHrR
namespace Go.Proofs.YtiiaoagobjgkiaaGreatDoor
open Go.RowKit Go.WideShapes Go.PlainAid

set_option maxHeartbeats 40000000 in
set_option maxRecDepth 100000 in
theorem refHR_3 (s : ByteArray) (h : s.size = 512) (hb : headB s = true) (hd : dialV s = 3) (kd : Int) (hkd : headK s = kd) (NV NE : Nat → Int) (T : Nat → ByteArray)
    (hNV : NV = fun k => numVal (hN s k)) (hNE : NE = fun k => numErr (hN s k)) (hT' : T = hT s)
    (V : Value) (v2 : (((((((((false || false) || !(NE 0 == 0)) || !(NE 1 == 0)) || !(NE 2 == 0)) || !(NE 3 == 0)) || !(NE 4 == 0)) || false) || !(NE 5 == 0)) || !(NE 6 == 0)) = true → V = badQ 2) (v4 : (((((((((false || false) || !(NE 0 == 0)) || !(NE 1 == 0)) || !(NE 2 == 0)) || !(NE 3 == 0)) || !(NE 4 == 0)) || false) || !(NE 5 == 0)) || !(NE 6 == 0)) = false → V = .tuple #[.agg (rowRaw (finT T 3) kd (upN NV 7)), .int .i64 3, .int .i64 0]) (w : World) (hm : HasMax w) :
    Calls Tryz.prog 37 #[.string s] w fun e w' => e = .returned V ∧ Ext w w' := by
  have C := fun w => headRight_any s w (by omega)
  rw [hb] at C
  have CB := Lib.hid C
  clear C hb
  have M2 : Hid (∀ w, Calls Tryz.prog 71 #[.int .i64 2] w fun e w' => e = .returned (.string ⟨#[117, 115, 116, 97, 114, 0, 48, 48]⟩) ∧ Ext w w') := Lib.hid (fun w => magic_any 2 (by omega) (by omega) w)
  have M3 : Hid (∀ w, Calls Tryz.prog 71 #[.int .i64 3] w fun e w' => e = .returned (.string ⟨#[117, 115, 116, 97, 114, 32, 32, 0]⟩) ∧ Ext w w') := Lib.hid (fun w => magic_any 3 (by omega) (by omega) w)
  have hi : isUst s = false ∧ isGnu s = true := by
    rcases dialV_cases s with ⟨a1, a2, a3⟩ | ⟨a1, a2, a3⟩ | ⟨a1, a2, a3⟩ <;> rw [a3] at hd <;> first | exact ⟨a1, a2⟩ | (exact absurd hd (by decide))
  obtain ⟨i1, i2⟩ := hi
  unfold isUst at i1
  unfold isGnu at i2
  have q : ((s.size : Int) != 512) = false := by simp; omega
  have z0 : 156 < s.size := by omega
  have z1 : 265 ≤ s.size := by omega
  have hbt := get_bt s
  have HK : Hid (kd = if bt s 156 = 0 then 48 else bt s 156) := Lib.hid hkd.symm
  clear hkd hd
  have V2 := Lib.hid v2
  have V4 := Lib.hid v4
  clear v2 v4
  have HNV := Lib.hid hNV
  have HNE := Lib.hid hNE
  have HT := Lib.hid hT'
  have zs : Hid (s.size = 512) := Lib.hid h
  clear hNV hNE hT' h
  go_enter Tryz.func37, Tryz.ntmps37
  go_wp2_with fail
  refine (CB.out _).mono ?_; rintro e w1 ⟨rfl, hx1⟩
  have hxw1 : Ext w w1 := (((Ext.refl w).alloc _).alloc _).trans hx1
  have hb0 : Boxed w1 w.heap.size 9 (.string s) := (hx1.block _ (by rw [World.size_alloc, World.size_alloc]; omega)).trans (two_at w _ _).1
  have HR1 : Hid (w1.heap[w.heap.size + 1]? = some (.cells (rowRaw noX 0 noN) 75 (0, 0))) := Lib.hid ((hx1.block _ (by rw [World.size_alloc, World.size_alloc]; omega)).trans (two_at w _ _).2)
  have c0 := hb0.cell
  have l0 := hb0.lt
  go_wp2_with fail
  refine wp_region_det (Stood _) (by kernel_rfl) (by kernel_rfl) (Stood.start _) ?_
  repeat (first
    | (refine det_skip (by rfl) ?_; simp only [Act.put, List.setIfInBounds_toArray, List.set_cons_zero, List.set_cons_succ])
    | (refine det_op (v := ?_) rfl (by rfl) (fun w' hS => ?_) ?_; rotate_left; (focus (obtain ⟨hcl, hxt⟩ := hS; go_wp2_with (first | ((with_reducible refine (M2.out _).mono ?_); rintro e w1 ⟨rfl, hx1⟩)); (first | refine ⟨?_, rfl, hcl, hxt⟩ | refine ⟨?_, rfl, Stood.of (hxt.trans (by assumption))⟩); (first | (simp only [List.getElem?_toArray, List.getElem?_cons_succ, List.getElem?_cons_zero]; rfl) | rfl))); simp only [Act.put, List.setIfInBounds_toArray, List.set_cons_zero, List.set_cons_succ]))
  refine det_end ?_
  intro w2 hS
  have hx2 := hS.2
  clear hS
  have hb2 : Boxed w2 w.heap.size 9 (.string s) := (hx2.block _ l0).trans hb0
  have c2 := hb2.cell
  have l2 := hb2.lt
  clear c0
  go_wp2_with fail
  refine wp_region_det (Stood _) (by kernel_rfl) (by kernel_rfl) (Stood.start _) ?_
  repeat (first
    | (refine det_skip (by rfl) ?_; simp only [Act.put, List.setIfInBounds_toArray, List.set_cons_zero, List.set_cons_succ])
    | (refine det_op (v := ?_) rfl (by rfl) (fun w' hS => ?_) ?_; rotate_left; (focus (obtain ⟨hcl, hxt⟩ := hS; go_wp2_with (first | ((with_reducible refine (M3.out _).mono ?_); rintro e w1 ⟨rfl, hx1⟩)); (first | refine ⟨?_, rfl, hcl, hxt⟩ | refine ⟨?_, rfl, Stood.of (hxt.trans (by assumption))⟩); (first | (simp only [List.getElem?_toArray, List.getElem?_cons_succ, List.getElem?_cons_zero]; rfl) | rfl))); simp only [Act.put, List.setIfInBounds_toArray, List.set_cons_zero, List.set_cons_succ]))
  refine det_end ?_
  intro w3 hS
  have hx3 := hS.2
  clear hS
  have hx13 : Ext w1 w3 := hx2.trans hx3
  have hb3 : Boxed w3 w.heap.size 9 (.string s) := (hx3.block _ l2).trans hb2
  have HR3 : Hid (w3.heap[w.heap.size + 1]? = some (.cells (rowRaw noX 0 noN) 75 (0, 0))) := Lib.hid ((hx13.block _ (lt_of_block HR1.out)).trans HR1.out)
  have hxw3 := hxw1.trans hx13
  have hm3 := hm.ext hxw3
  clear c2 hb2 hb0
  go_wp2_with fail
  have hB : w3.heap.size < (w3.alloc (.cells #[.bool false] 4)).heap.size := by simp
  have hne : w.heap.size ≠ w3.heap.size := by have := hb3.lt; omega
  have hxa : Ext w3 (w3.alloc (.cells #[.bool false] 4)) := (Ext.refl _).alloc _
  have hcb : Boxed (w3.alloc (.cells #[.bool false] 4)) w.heap.size 9 (.string s) := (hxa.block _ hb3.lt).trans hb3
  have hfb : Boxed (w3.alloc (.cells #[.bool false] 4)) w3.heap.size 4 (.bool false) := World.alloc_heap_new w3 _
  have HR4 : Hid ((w3.alloc (.cells #[.bool false] 4)).heap[w.heap.size + 1]? = some (.cells (rowRaw noX 0 noN) 75 (0, 0))) := Lib.hid ((hxa.block _ (lt_of_block HR3.out)).trans HR3.out)
  have hr1 : w.heap.size + 1 ≠ w3.heap.size := by have := lt_of_block HR3.out; omega
  have hxw4 := hxw3.trans hxa
  have hm4 := hm3.ext hxa
  have hmB : 1 ≠ w3.heap.size := by
    obtain ⟨m, hmm⟩ := hm3
    have hl : 1 < w3.heap.size := World.block_lt_of_cell? w3 _ hmm
    omega
  have hzs : ∀ n, n ≤ 512 → n ≤ s.size := fun n hn => by rw [zs.out]; exact hn
  have sl : s.size ≤ 100000 := by rw [zs.out]; omega
  have t0 : RTextC (w3.alloc (.cells #[.bool false] 4)) w.heap.size w3.heap.size 0 100 (T 0) := by rw [HT.out]; exact rTextC hB hne hcb hm4 hmB sl 0 100 100 rfl (hzs 100 (by omega))
  have t1 : RTextC (w3.alloc (.cells #[.bool false] 4)) w.heap.size w3.heap.size 157 100 (T 1) := by rw [HT.out]; exact rTextC hB hne hcb hm4 hmB sl 157 257 100 rfl (hzs 257 (by omega))
  have n0 : RNumC (w3.alloc (.cells #[.bool false] 4)) w.heap.size w3.heap.size 100 8 (NV 0) (!(NE 0 == 0)) := by rw [HNV.out, HNE.out]; exact rNumC hB hne hcb sl 100 108 8 rfl (hzs 108 (by omega))
  replace n0 := Lib.hid n0
  have n1 : RNumC (w3.alloc (.cells #[.bool false] 4)) w.heap.size w3.heap.size 108 8 (NV 1) (!(NE 1 == 0)) := by rw [HNV.out, HNE.out]; exact rNumC hB hne hcb sl 108 116 8 rfl (hzs 116 (by omega))
  replace n1 := Lib.hid n1
  have n2 : RNumC (w3.alloc (.cells #[.bool false] 4)) w.heap.size w3.heap.size 116 8 (NV 2) (!(NE 2 == 0)) := by rw [HNV.out, HNE.out]; exact rNumC hB hne hcb sl 116 124 8 rfl (hzs 124 (by omega))
  replace n2 := Lib.hid n2
  have n3 : RNumC (w3.alloc (.cells #[.bool false] 4)) w.heap.size w3.heap.size 124 12 (NV 3) (!(NE 3 == 0)) := by rw [HNV.out, HNE.out]; exact rNumC hB hne hcb sl 124 136 12 rfl (hzs 136 (by omega))
  replace n3 := Lib.hid n3
  have n4 : RNumC (w3.alloc (.cells #[.bool false] 4)) w.heap.size w3.heap.size 136 12 (NV 4) (!(NE 4 == 0)) := by rw [HNV.out, HNE.out]; exact rNumC hB hne hcb sl 136 148 12 rfl (hzs 148 (by omega))
  replace n4 := Lib.hid n4
  have m5 : QNumC (w3.alloc (.cells #[.bool false] 4)) w.heap.size w3.heap.size 329 8 (NV 5) (!(NE 5 == 0)) := by rw [HNV.out, HNE.out]; exact qNumC hB hne hcb sl 329 337 8 rfl (hzs 337 (by omega))
  replace m5 := Lib.hid m5
  have m6 : QNumC (w3.alloc (.cells #[.bool false] 4)) w.heap.size w3.heap.size 337 8 (NV 6) (!(NE 6 == 0)) := by rw [HNV.out, HNE.out]; exact qNumC hB hne hcb sl 337 345 8 rfl (hzs 345 (by omega))
  replace m6 := Lib.hid m6
  have x2 : QTextC (w3.alloc (.cells #[.bool false] 4)) w.heap.size w3.heap.size 265 32 (T 2) := by rw [HT.out]; exact qTextC hB hne hcb hm4 hmB sl 265 297 32 rfl (hzs 297 (by omega))
  replace x2 := Lib.hid x2
  have x3 : QTextC (w3.alloc (.cells #[.bool false] 4)) w.heap.size w3.heap.size 297 32 (T 3) := by rw [HT.out]; exact qTextC hB hne hcb hm4 hmB sl 297 329 32 rfl (hzs 329 (by omega))
  replace x3 := Lib.hid x3
  replace t0 := Lib.hid t0
  replace t1 := Lib.hid t1
  have hst : HRS (w3.alloc (.cells #[.bool false] 4)) w3.heap.size false none (w3.alloc (.cells #[.bool false] 4)).drew := ⟨hfb, ⟨rfl, rfl, rfl, Nat.le_refl _, fun _ _ _ => rfl⟩, fun u hu => by cases hu⟩
  generalize w3.alloc (.cells #[.bool false] 4) = W0 at *
  clear hb3 HR3 hxa HNV HNE HT hm3
  refine wp_region_detT (HRS W0 w3.heap.size) false 18 17 (by kernel_rfl) (by kernel_rfl) hst ?_
  simp only [List.take_succ_cons, List.take_zero, List.drop_succ_cons, List.drop_zero]
  repeat (first
    | (refine detT_skip (by decide) (by rfl) ?_; simp only [Act.put, List.setIfInBounds_toArray, List.set_cons_zero, List.set_cons_succ])
    | (refine detT_plain (v := ?_) (by decide) rfl (by rfl) (fun b9 p9 w9 hS => ?_) ?_; rotate_left; (focus (have g0 := grown_cell hne hcb hS.2.1; have gl := World.block_lt_of_cell? w9 _ g0; go_wp2_with fail; refine ⟨?_, rfl, hS⟩; (first | (simp only [List.getElem?_toArray, List.getElem?_cons_succ, List.getElem?_cons_zero]; rfl) | rfl))); simp only [Act.put, List.setIfInBounds_toArray, List.set_cons_zero, List.set_cons_succ])
    | (refine detT_op ?_ ?_ (by decide) rfl (by rfl) (fun b9 p9 w9 hS => ?_) ?_; rotate_left 2; (focus (go_wp2_with (first | ((with_reducible refine (t0.out _ _ _ hS).mono ?_); rintro e w1 ⟨rfl, hS1⟩) | ((with_reducible refine (t1.out _ _ _ hS).mono ?_); rintro e w1 ⟨rfl, hS1⟩) | ((with_reducible refine (n0.out _ _ _ hS).mono ?_); rintro e w1 ⟨rfl, hS1⟩) | ((with_reducible refine (n1.out _ _ _ hS).mono ?_); rintro e w1 ⟨rfl, hS1⟩) | ((with_reducible refine (n2.out _ _ _ hS).mono ?_); rintro e w1 ⟨rfl, hS1⟩) | ((with_reducible refine (n3.out _ _ _ hS).mono ?_); rintro e w1 ⟨rfl, hS1⟩) | ((with_reducible refine (n4.out _ _ _ hS).mono ?_); rintro e w1 ⟨rfl, hS1⟩)); refine ⟨?_, rfl, ?_⟩; rotate_left; assumption; (first | (simp only [List.getElem?_toArray, List.getElem?_cons_succ, List.getElem?_cons_zero]; rfl) | rfl))); simp only [Act.put, List.setIfInBounds_toArray, List.set_cons_zero, List.set_cons_succ]))
  refine detT_alloc (t := 75) (cs := rowRaw noX 0 noN) rfl (by rfl) (fun w9 => ?_) (fun b9 w9 hS => ?_) (fun u => ?_)
  · rfl
  · have hx9 : Ext w9 (w9.alloc (.cells (rowRaw noX 0 noN) 75)) := (Ext.refl _).alloc _
    have h1 := hS.step hB b9 ((hx9.block _ hS.1.lt).trans hS.1) (grown_ext hx9 _)
    exact ⟨h1.1, h1.2.1, fun u hu => ⟨w9.heap.size, by injection hu with hu; exact hu.symm, hS.2.1.size, World.alloc_heap_new w9 _⟩⟩
  simp only [Act.put, List.setIfInBounds_toArray, List.set_cons_zero, List.set_cons_succ]
  refine detT_end ?_
  intro w5 hS5
  obtain ⟨g, rfl, hgl, hgr⟩ := hS5.2.2 u rfl
  have Hgr := Lib.hid hgr
  have hT6 := hS5.made hB hgl hgr (rowRaw (upT T 2) (bt s 156) (upN NV 5))
  clear hgr hS5
  refine wpList_store_row rfl 75 (.tmp 9) (.tmp 44) rfl g (rowRaw (upT T 2) (bt s 156) (upN NV 5)) rfl rfl 75 _ Hgr.out qInfo rfl (rowRaw_one _ _ _) ?_
  generalize w5.setRow g (rowRaw (upT T 2) (bt s 156) (upN NV 5)) = w6 at *
  clear Hgr t0 t1 n0 n1 n2 n3 n4
  go_wp2_with fail
  refine (x2.out _ _ _ _ hT6).mono ?_; rintro e w7 ⟨rfl, hT7⟩
  go_wp2_with fail
  refine (x3.out _ _ _ _ hT7).mono ?_; rintro e w8 ⟨rfl, hT8⟩
  go_wp2_with fail
  refine (m5.out _ _ _ _ hT8).mono ?_; rintro e wa ⟨rfl, hTa⟩
  go_wp2_with fail
  refine (m6.out _ _ _ _ hTa).mono ?_; rintro e wb ⟨rfl, hTb⟩
  have hTc := (((hTb.set hB 2 (.string (T 2))).set hB 3 (.string (T 3))).set hB 11 (.int .i64 (NV 5))).set hB 12 (.int .i64 (NV 6))
  have rb := rowRaw_cells _ _ _ hTb.2.2.2
  have d2 := rb.1 2 (by omega)
  have d3 := rb.1 3 (by omega)
  have d5 := rb.2.2.1 5 (by omega)
  have d6 := rb.2.2.1 6 (by omega)
  have e2 := rb.2.2.2 2
  have e3 := rb.2.2.2 3
  have e5 := rb.2.2.2 11
  have e6 := rb.2.2.2 12
  have lb := lt_of_block hTb.2.2.2
  simp only [Nat.reduceAdd] at d5 d6
  clear rb hT6 hT7 hT8 hTa x2 x3 m5 m6
  have rk := rowRaw_cells (upT T 2) (bt s 156) (upN NV 5) (show wb.heap[g]? = some (.cells (rowRaw (upT T 2) (bt s 156) (upN NV 5)) 75 (0, 0)) from hTb.2.2.2)
  have cK := rk.2.1
  have fK := rk.2.2.2 5
  have lK := lt_of_block hTb.2.2.2
  clear rk
  have hT9 : HRT W0 w3.heap.size g ((((((((((false || false) || !(NE 0 == 0)) || !(NE 1 == 0)) || !(NE 2 == 0)) || !(NE 3 == 0)) || !(NE 4 == 0)) || false) || !(NE 5 == 0)) || !(NE 6 == 0))) (rowRaw (finT T 3) (bt s 156) (upN NV 7)) _ := hTc
  go_upto_if 66 with fail
  go_cut [] (fun wx => HRT W0 w3.heap.size g ((((((((((false || false) || !(NE 0 == 0)) || !(NE 1 == 0)) || !(NE 2 == 0)) || !(NE 3 == 0)) || !(NE 4 == 0)) || false) || !(NE 5 == 0)) || !(NE 6 == 0))) (rowRaw (finT T 3) kd (upN NV 7)) wx)
  case first =>
    go_wp2_with fail
    · have hz : (bt s 156 == 0) = true := by assumption
      go_meet
      have hz' : kd = 48 := by rw [HK.out, if_pos (by simpa using hz)]
      have := hT9.set hB 5 (.int .u8 48)
      rw [hz']
      exact this
    · have hz : (bt s 156 == 0) = false := by assumption
      go_meet
      have hz' : kd = bt s 156 := by rw [HK.out, if_neg (by simpa using hz)]
      rw [hz']
      exact hT9
  case rest =>
    have hTa := hcut
    have cB := hTa.1.cell
    have HRa := Lib.hid ((hTa.2.1.block _ (lt_of_block HR4.out) (by intro e; injection e with e; exact hr1 e)).trans HR4.out)
    have hxa := hTa.2.1
    generalize hfl : ((((((((((false || false) || !(NE 0 == 0)) || !(NE 1 == 0)) || !(NE 2 == 0)) || !(NE 3 == 0)) || !(NE 4 == 0)) || false) || !(NE 5 == 0)) || !(NE 6 == 0))) = fl at *
    clear hfl hbt z0 HK
    have HTa := Lib.hid hTa.2.2.2
    have hEw : Below w.heap.size w wc := ⟨hxa.os.trans hxw4.os, hxa.tape.trans hxw4.tape, hxa.output.trans hxw4.output, Nat.le_trans hxw4.size hxa.size, fun i hi => (hxa.block i (Nat.lt_of_lt_of_le hi hxw4.size) (by intro e; injection e with e; have := hxw3.size; omega)).trans (hxw4.block i hi)⟩
    have hEa : ∀ C : Array Value, Ext w (wc.setRow (w.heap.size + 1) C) := fun C => below_setRow hEw (Nat.le_succ _) C
    cases fl with
    | true =>
      have hv := Lib.hid (V2.out rfl)
      go_wp2_with (refine wpList_store_row rfl 75 (.tmp 2) (.tmp 69) rfl (w.heap.size + 1) (rowRaw noX 0 noN) rfl rfl 75 _ HRa.out qInfo rfl (rowRaw_one _ _ _) ?_)
      exact bodyPost_ret (v := V) (by rw [hv.out]; exact results_rawQ (by rfl) (by rfl) (by rfl) rfl (setRow_heap _ _ _ _ _ _ HRa.out)) rfl ⟨rfl, hEa _⟩
    | false =>
      have hv := Lib.hid (V4.out rfl)
      go_wp2_with (first | (refine wpList_load_row rfl 75 (.tmp 9) rfl g rfl 75 (rowRaw (finT T 3) kd (upN NV 7)) (0, 0) _ HTa.out Tryz.underlying75 rfl qInfo ?_) | (refine wpList_store_row rfl 75 (.tmp 2) (.tmp 70) rfl (w.heap.size + 1) (rowRaw (finT T 3) kd (upN NV 7)) rfl rfl 75 _ HRa.out qInfo rfl (rowRaw_one _ _ _) ?_))
      exact bodyPost_ret (v := V) (by rw [hv.out]; exact results_rawQ (by rfl) (by rfl) (by rfl) rfl (setRow_heap _ _ _ _ _ _ HRa.out)) rfl ⟨rfl, hEa _⟩
end Go.Proofs.YtiiaoagobjgkiaaGreatDoor
