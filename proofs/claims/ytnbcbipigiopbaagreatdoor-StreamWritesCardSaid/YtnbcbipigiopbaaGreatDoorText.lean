/-
  stamp.Text: a time in decimal.
-/
import Derived.Test.YtnbcbipigiopbaaGreatDoorPkM
import Derived.Test.YtnbcbipigiopbaaGreatDoorPkC
import Derived.Test.YtnbcbipigiopbaaGreatDoorPkA
import Derived.Shelf.Strings.Trim
namespace Go.Proofs.YtnbcbipigiopbaaGreatDoor
open Go.RowKit

theorem timeB_rng {a b : Int} (h : timeB a b = true) : -1099511627776 ≤ a ∧ a ≤ 1099511627776 ∧ 0 ≤ b ∧ b ≤ 999999999 := by
  unfold timeB at h
  simp at h
  omega
theorem trimZ_size (l : List UInt8) : (trimZ l).length ≤ l.length := by
  unfold trimZ Lib.trimRightB
  have := (List.dropWhile_sublist (fun x => x == (48 : UInt8)) (l := l.reverse)).length_le
  simp at *
  omega
theorem app_nil (a : ByteArray) : a ++ (⟨#[]⟩ : ByteArray) = a := ByteArray.append_empty
/-- The nine digits behind the first one, without the zeros behind. -/
theorem trim_nine (p : Int) (h0 : 0 ≤ p) (h1 : p < 1000000000) : ∃ (u z : ByteArray), u = ⟨(Lib.itoa (1000000000 + p)).toArray⟩ ∧ u.size = 10 ∧ z.size ≤ 9 ∧ z = ⟨(trimZ (pad9 p.toNat)).toArray⟩ ∧
    ∀ w, Calls Tryz.prog 152 #[.string (u.extract 1 u.size), .string ⟨#[48]⟩] w fun e w' => e = .returned (.string z) ∧ Ext w w' := by
  refine ⟨_, _, rfl, ?_, ?_, rfl, fun w => ?_⟩
  · rw [itoa_pad p h0 h1]
    show (49 :: pad9 p.toNat).toArray.size = 10
    simp [pad9_len]
  · show (trimZ (pad9 p.toNat)).toArray.size ≤ 9
    have := trimZ_size (pad9 p.toNat)
    rw [pad9_len] at this
    simpa using this
  · rw [itoa_pad p h0 h1]
    have e : ((⟨(49 :: pad9 p.toNat).toArray⟩ : ByteArray).extract 1 (⟨(49 :: pad9 p.toNat).toArray⟩ : ByteArray).size).data.toList = pad9 p.toNat := by
      rw [ByteArray.data_extract]
      simp [ByteArray.size]
    have := Tryz.strings_TrimRight_one ((⟨(49 :: pad9 p.toNat).toArray⟩ : ByteArray).extract 1 (⟨(49 :: pad9 p.toNat).toArray⟩ : ByteArray).size) 48 (by decide) w (by
      rw [ByteArray.size_extract]
      have : (⟨(49 :: pad9 p.toNat).toArray⟩ : ByteArray).size = 10 := by
        show (49 :: pad9 p.toNat).toArray.size = 10
        simp [pad9_len]
      omega)
    rw [e] at this
    exact this.mono fun _ _ ⟨h, k⟩ => ⟨h, by rw [k]; exact Ext.refl _⟩

set_option maxHeartbeats 4000000 in
set_option maxRecDepth 100000 in
theorem text_any (ts tn : Int) (w : World) (ht : HasPow w) : Calls Tryz.prog 139 #[.agg #[.int .i64 ts, .int .i64 tn]] w fun e w' => e = .returned (.tuple #[.string (textV ts tn), errOf (textE ts tn)]) ∧ Ext w w' := by
  have c1 := fun w => stampRight_any ts tn w
  cases hb : timeB ts tn with
  | false =>
    have ev : Hid (textV ts tn = ⟨#[]⟩ ∧ textE ts tn = 1) := Lib.hid (by unfold textV textE; rw [hb]; exact ⟨rfl, rfl⟩)
    rw [hb] at c1
    have C1 := Lib.hid c1
    clear c1 hb
    go_enter Tryz.func139, Tryz.ntmps139
    go_wp2_with fail
    refine (C1.out _).mono ?_; rintro e w1 ⟨rfl, hx1⟩
    go_wp2_with fail
    go_ret2
    exact ⟨ret_val (by rw [ev.out.1, ev.out.2]; rfl), Ext.trans (by show Below _ _ _; repeat' (first | (with_reducible exact Below.refl _ _) | (with_reducible assumption) | (with_reducible refine belowDrewN ?_ _) | (with_reducible refine Below.alloc ?_ ?_ _) | (with_reducible refine Below.drew ?_) | (with_reducible refine Below.setCell ?_ ?_ _) | go_size)) hx1⟩
  | true =>
    have ev : Hid (textV ts tn = signT ts ++ ⟨(Lib.itoa (wholeT ts tn)).toArray⟩ ++ tailT (partT ts tn) ∧ textE ts tn = 0) := Lib.hid (by unfold textV textE; rw [hb]; exact ⟨rfl, rfl⟩)
    obtain ⟨b1, b2, b3, b4⟩ := timeB_rng hb
    rw [hb] at c1
    have C1 := Lib.hid c1
    clear c1 hb
    have hx0 : Ext w (w.alloc (.cells #[.int .i64 ts, .int .i64 tn] 23)) := (Ext.refl w).alloc _
    have hcells : ∀ W : World, Ext (w.alloc (.cells #[.int .i64 ts, .int .i64 tn] 23)) W → W.cell? ⟨w.heap.size, 0, none⟩ = some (.int .i64 ts) ∧ W.cell? ⟨w.heap.size, 1, none⟩ = some (.int .i64 tn) ∧ w.heap.size < W.heap.size := fun W hW => by
      have h1 := hW.cell (show (w.alloc (.cells #[.int .i64 ts, .int .i64 tn] 23)).cell? ⟨w.heap.size, 0, none⟩ = some (.int .i64 ts) by simp)
      have h2 := hW.cell (show (w.alloc (.cells #[.int .i64 ts, .int .i64 tn] 23)).cell? ⟨w.heap.size, 1, none⟩ = some (.int .i64 tn) by simp)
      exact ⟨h1, h2, World.block_lt_of_cell? W _ h1⟩
    have Hcells := Lib.hid hcells
    clear hcells
    by_cases hs : ts < 0
    · have q1 : decide (ts < 0) = true := decide_eq_true hs
      by_cases hn : 0 < tn
      · have q2 : decide (0 < tn) = true := decide_eq_true hn
        have q3 : decide (0 < 1000000000 - tn) = true := decide_eq_true (by omega)
        have C2 := Lib.hid (fun w ht => itoa_any (-ts - 1) (by omega) (by omega) w ht)
        have C3 := Lib.hid (fun w ht => itoa_any (1000000000 + (1000000000 - tn)) (by omega) (by omega) w ht)
        have hz2 := itoa_size (-ts - 1) (by omega) (by omega)
        obtain ⟨u, z, hu, huz, hzz, hz, c4⟩ := trim_nine (1000000000 - tn) (by omega) (by omega)
        rw [← hu] at C3
        have C4 := Lib.hid c4
        have efin : Hid (signT ts ++ ⟨(Lib.itoa (wholeT ts tn)).toArray⟩ ++ tailT (partT ts tn) = ⟨#[45]⟩ ++ ⟨(Lib.itoa (-ts - 1)).toArray⟩ ++ (⟨#[46]⟩ ++ z)) := Lib.hid (by
          have p1 : partT ts tn = 1000000000 - tn := by unfold partT; exact if_pos ⟨hs, hn⟩
          have p2 : wholeT ts tn = -ts - 1 := by unfold wholeT; rw [if_pos hs, if_pos hn]
          rw [p1, p2]
          unfold signT tailT
          rw [if_pos hs, if_pos (by omega), hz])
        have hu1 : 1 ≤ u.size := by omega
        have hu2 : (1 : Int) ≤ u.size := by omega
        have hu3 : u.size ≤ 10 := by omega
        generalize (⟨(Lib.itoa (-ts - 1)).toArray⟩ : ByteArray) = a at *
        clear c4 hu huz hz hs hn
        go_enter Tryz.func139, Tryz.ntmps139
        go_wp2_with fail
        refine (C1.out _).mono ?_; rintro e w1 ⟨rfl, hx1⟩
        obtain ⟨g1, g2, g3⟩ := Hcells.out w1 hx1
        go_wp2_with fail
        refine wp_region_det (Stood _) (by kernel_rfl) (by kernel_rfl) (Stood.start _) ?_
        repeat (first
          | (refine det_skip (by rfl) ?_; simp only [Act.put, List.setIfInBounds_toArray, List.set_cons_zero, List.set_cons_succ])
          | (refine det_op (v := ?_) rfl (by rfl) (fun w' hS => ?_) ?_; rotate_left; (focus (obtain ⟨hcl, hxt⟩ := hS; go_wp2_with (fail); (first | refine ⟨?_, rfl, hcl, hxt⟩ | refine ⟨?_, rfl, Stood.of (hxt.trans (by assumption))⟩); (first | (simp only [List.getElem?_toArray, List.getElem?_cons_succ, List.getElem?_cons_zero]; rfl) | rfl))); simp only [Act.put, List.setIfInBounds_toArray, List.set_cons_zero, List.set_cons_succ]))
        refine det_end ?_
        intro w2 hS
        have hx2 := hS.2
        clear hS
        have hy2 := hx0.trans (hx1.trans hx2)
        go_wp2_with fail
        refine (C2.out _ (ht.ext hy2)).mono ?_; rintro e w3 ⟨rfl, hx3⟩
        have hy3 := hy2.trans hx3
        go_wp2_with fail
        refine (C3.out _ (ht.ext hy3)).mono ?_; rintro e w4 ⟨rfl, hx4⟩
        have hy4 := hy3.trans hx4
        go_wp2_with fail
        refine (C4.out _).mono ?_; rintro e w5 ⟨rfl, hx5⟩
        have hy5 := hy4.trans hx5
        go_wp2_with fail
        go_ret2
        exact ⟨ret_val (by rw [ev.out.1, ev.out.2, efin.out]; rfl), hy5⟩
      · have q2 : decide (0 < tn) = false := decide_eq_false hn
        have C2 := Lib.hid (fun w ht => itoa_any (-ts) (by omega) (by omega) w ht)
        have hz2 := itoa_size (-ts) (by omega) (by omega)
        have efin : Hid (signT ts ++ ⟨(Lib.itoa (wholeT ts tn)).toArray⟩ ++ tailT (partT ts tn) = ⟨#[45]⟩ ++ ⟨(Lib.itoa (-ts)).toArray⟩) := Lib.hid (by
          have p1 : partT ts tn = tn := by unfold partT; exact if_neg (fun h => hn h.2)
          have p2 : wholeT ts tn = -ts := by unfold wholeT; rw [if_pos hs, if_neg hn]
          rw [p1, p2]
          unfold signT tailT
          rw [if_pos hs, if_neg hn]
          exact app_nil _)
        generalize (⟨(Lib.itoa (-ts)).toArray⟩ : ByteArray) = a at *
        clear hs hn
        go_enter Tryz.func139, Tryz.ntmps139
        go_wp2_with fail
        refine (C1.out _).mono ?_; rintro e w1 ⟨rfl, hx1⟩
        obtain ⟨g1, g2, g3⟩ := Hcells.out w1 hx1
        go_wp2_with fail
        refine wp_region_det (Stood _) (by kernel_rfl) (by kernel_rfl) (Stood.start _) ?_
        repeat (first
          | (refine det_skip (by rfl) ?_; simp only [Act.put, List.setIfInBounds_toArray, List.set_cons_zero, List.set_cons_succ])
          | (refine det_op (v := ?_) rfl (by rfl) (fun w' hS => ?_) ?_; rotate_left; (focus (obtain ⟨hcl, hxt⟩ := hS; go_wp2_with (fail); (first | refine ⟨?_, rfl, hcl, hxt⟩ | refine ⟨?_, rfl, Stood.of (hxt.trans (by assumption))⟩); (first | (simp only [List.getElem?_toArray, List.getElem?_cons_succ, List.getElem?_cons_zero]; rfl) | rfl))); simp only [Act.put, List.setIfInBounds_toArray, List.set_cons_zero, List.set_cons_succ]))
        refine det_end ?_
        intro w2 hS
        have hx2 := hS.2
        clear hS
        have hy2 := hx0.trans (hx1.trans hx2)
        go_wp2_with fail
        refine (C2.out _ (ht.ext hy2)).mono ?_; rintro e w3 ⟨rfl, hx3⟩
        have hy3 := hy2.trans hx3
        go_wp2_with fail
        go_ret2
        exact ⟨ret_val (by rw [ev.out.1, ev.out.2, efin.out]; rfl), hy3⟩
    · have q1 : decide (ts < 0) = false := decide_eq_false hs
      have C2 := Lib.hid (fun w ht => itoa_any ts (by omega) (by omega) w ht)
      have hz2 := itoa_size ts (by omega) (by omega)
      by_cases hn : 0 < tn
      · have q2 : decide (0 < tn) = true := decide_eq_true hn
        have C3 := Lib.hid (fun w ht => itoa_any (1000000000 + tn) (by omega) (by omega) w ht)
        obtain ⟨u, z, hu, huz, hzz, hz, c4⟩ := trim_nine tn (by omega) (by omega)
        rw [← hu] at C3
        have C4 := Lib.hid c4
        have efin : Hid (signT ts ++ ⟨(Lib.itoa (wholeT ts tn)).toArray⟩ ++ tailT (partT ts tn) = ⟨#[]⟩ ++ ⟨(Lib.itoa ts).toArray⟩ ++ (⟨#[46]⟩ ++ z)) := Lib.hid (by
          have p1 : partT ts tn = tn := by unfold partT; exact if_neg (fun h => hs h.1)
          have p2 : wholeT ts tn = ts := by unfold wholeT; rw [if_neg hs]
          rw [p1, p2]
          unfold signT tailT
          rw [if_neg hs, if_pos hn, hz])
        have hu1 : 1 ≤ u.size := by omega
        have hu2 : (1 : Int) ≤ u.size := by omega
        have hu3 : u.size ≤ 10 := by omega
        generalize (⟨(Lib.itoa ts).toArray⟩ : ByteArray) = a at *
        clear c4 hu huz hz hs hn
        go_enter Tryz.func139, Tryz.ntmps139
        go_wp2_with fail
        refine (C1.out _).mono ?_; rintro e w1 ⟨rfl, hx1⟩
        obtain ⟨g1, g2, g3⟩ := Hcells.out w1 hx1
        go_wp2_with fail
        refine wp_region_det (Stood _) (by kernel_rfl) (by kernel_rfl) (Stood.start _) ?_
        repeat (first
          | (refine det_skip (by rfl) ?_; simp only [Act.put, List.setIfInBounds_toArray, List.set_cons_zero, List.set_cons_succ])
          | (refine det_op (v := ?_) rfl (by rfl) (fun w' hS => ?_) ?_; rotate_left; (focus (obtain ⟨hcl, hxt⟩ := hS; go_wp2_with (fail); (first | refine ⟨?_, rfl, hcl, hxt⟩ | refine ⟨?_, rfl, Stood.of (hxt.trans (by assumption))⟩); (first | (simp only [List.getElem?_toArray, List.getElem?_cons_succ, List.getElem?_cons_zero]; rfl) | rfl))); simp only [Act.put, List.setIfInBounds_toArray, List.set_cons_zero, List.set_cons_succ]))
        refine det_end ?_
        intro w2 hS
        have hx2 := hS.2
        clear hS
        have hy2 := hx0.trans (hx1.trans hx2)
        go_wp2_with fail
        refine (C2.out _ (ht.ext hy2)).mono ?_; rintro e w3 ⟨rfl, hx3⟩
        have hy3 := hy2.trans hx3
        go_wp2_with fail
        refine (C3.out _ (ht.ext hy3)).mono ?_; rintro e w4 ⟨rfl, hx4⟩
        have hy4 := hy3.trans hx4
        go_wp2_with fail
        refine (C4.out _).mono ?_; rintro e w5 ⟨rfl, hx5⟩
        have hy5 := hy4.trans hx5
        go_wp2_with fail
        go_ret2
        exact ⟨ret_val (by rw [ev.out.1, ev.out.2, efin.out]; first | rfl | simp), hy5⟩
      · have q2 : decide (0 < tn) = false := decide_eq_false hn
        have efin : Hid (signT ts ++ ⟨(Lib.itoa (wholeT ts tn)).toArray⟩ ++ tailT (partT ts tn) = ⟨#[]⟩ ++ ⟨(Lib.itoa ts).toArray⟩) := Lib.hid (by
          have p1 : partT ts tn = tn := by unfold partT; exact if_neg (fun h => hs h.1)
          have p2 : wholeT ts tn = ts := by unfold wholeT; rw [if_neg hs]
          rw [p1, p2]
          unfold signT tailT
          rw [if_neg hs, if_neg hn]
          exact app_nil _)
        generalize (⟨(Lib.itoa ts).toArray⟩ : ByteArray) = a at *
        clear hs hn
        go_enter Tryz.func139, Tryz.ntmps139
        go_wp2_with fail
        refine (C1.out _).mono ?_; rintro e w1 ⟨rfl, hx1⟩
        obtain ⟨g1, g2, g3⟩ := Hcells.out w1 hx1
        go_wp2_with fail
        refine wp_region_det (Stood _) (by kernel_rfl) (by kernel_rfl) (Stood.start _) ?_
        repeat (first
          | (refine det_skip (by rfl) ?_; simp only [Act.put, List.setIfInBounds_toArray, List.set_cons_zero, List.set_cons_succ])
          | (refine det_op (v := ?_) rfl (by rfl) (fun w' hS => ?_) ?_; rotate_left; (focus (obtain ⟨hcl, hxt⟩ := hS; go_wp2_with (fail); (first | refine ⟨?_, rfl, hcl, hxt⟩ | refine ⟨?_, rfl, Stood.of (hxt.trans (by assumption))⟩); (first | (simp only [List.getElem?_toArray, List.getElem?_cons_succ, List.getElem?_cons_zero]; rfl) | rfl))); simp only [Act.put, List.setIfInBounds_toArray, List.set_cons_zero, List.set_cons_succ]))
        refine det_end ?_
        intro w2 hS
        have hx2 := hS.2
        clear hS
        have hy2 := hx0.trans (hx1.trans hx2)
        go_wp2_with fail
        refine (C2.out _ (ht.ext hy2)).mono ?_; rintro e w3 ⟨rfl, hx3⟩
        have hy3 := hy2.trans hx3
        go_wp2_with fail
        go_ret2
        exact ⟨ret_val (by rw [ev.out.1, ev.out.2, efin.out]; first | rfl | simp), hy3⟩
end Go.Proofs.YtnbcbipigiopbaaGreatDoor
