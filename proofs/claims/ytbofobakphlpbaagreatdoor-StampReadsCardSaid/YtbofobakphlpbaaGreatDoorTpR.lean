/-
  The reference's TimeParse: its walk. No conditions but the text's length.
-/
import Derived.Test.YtbofobakphlpbaaGreatDoorTpL
namespace Go.Proofs.YtbofobakphlpbaaGreatDoor
open Go.RowKit Go.WideShapes Go.PlainAid

/-- What the search leaves: before and behind the point, and where it stands. -/
theorem scan_end (u : ByteArray) (q : Int) (h : scan u.data.toList 0 (-1) = some q) : ∃ (W P : ByteArray) (pt : Bool), W.data.toList = wholeS u.data.toList ∧ P.data.toList = partS u.data.toList ∧ pointS u.data.toList = pt ∧
    W.data.toList.all dig = true ∧ P.data.toList.all dig = true ∧ formS u.data.toList = (!W.toList.isEmpty && (!pt || !P.toList.isEmpty)) ∧ W.size ≤ u.size ∧ P.size ≤ u.size ∧
    ((pt = false ∧ q = -1 ∧ W = u ∧ P = ⟨#[]⟩) ∨ (pt = true ∧ ∃ p : Nat, q = (p : Int) ∧ p < u.size ∧ W = u.extract 0 p ∧ P = u.extract (p + 1) u.size)) := by
  rcases scan_cut u.data.toList with ⟨h1, _⟩ | ⟨h1, h2, h3, h4, h5, h6⟩ | ⟨p, h1, h2, h3, h4, h5, h6, h7, h8⟩
  · rw [h1] at h; cases h
  · rw [h1] at h
    injection h with h
    refine ⟨u, ⟨#[]⟩, false, h3.symm, by rw [h4], h2, h6, rfl, ?_, Nat.le_refl _, Nat.zero_le _, .inl ⟨rfl, h.symm, rfl, rfl⟩⟩
    rw [h5, b_empty]
    simp
  · rw [h1] at h
    injection h with h
    have e1 : (u.extract 0 p).data.toList = wholeS u.data.toList := by rw [h3, b_take]
    have e2 : (u.extract (p + 1) u.size).data.toList = partS u.data.toList := by rw [h4, b_drop]
    refine ⟨u.extract 0 p, u.extract (p + 1) u.size, true, e1, e2, h2, by rw [e1]; exact h7, by rw [e2]; exact h8, ?_, by rw [ByteArray.size_extract]; omega, by rw [ByteArray.size_extract]; omega, .inr ⟨rfl, p, h.symm, h5, rfl, rfl⟩⟩
    rw [h6, b_empty, b_empty, e1, e2]
    simp

set_option maxHeartbeats 8000000 in
set_option maxRecDepth 100000 in
theorem timeParse_any (s : ByteArray) (hs : s.size ≤ 100) (w : World) :
    Calls Tryz.prog 17 #[.string s] w fun e w' => e = .returned (.tuple #[.agg #[.int .i64 (pV s).1, .int .i64 (pV s).2.1], .int .i64 (pV s).2.2]) ∧ Ext w w' := by
  obtain ⟨V, hV⟩ : ∃ V, V = pV s := ⟨_, rfl⟩
  obtain ⟨u, hu⟩ : ∃ u, u = uS s := ⟨_, rfl⟩
  obtain ⟨ng, hng⟩ : ∃ ng, ng = negS s := ⟨_, rfl⟩
  have hus : u.size ≤ 100 := by rw [hu]; exact Nat.le_trans (u_size s) hs
  have Pform : Hid (formS u.data.toList = false → V = (0, 0, 3)) := Lib.hid (by rw [hu, hV]; exact pV_form)
  have Plong : Hid (formS u.data.toList = true → 15 < (bareZ (wholeS u.data.toList)).length → V = (0, 0, 2)) := Lib.hid (by rw [hu, hV]; exact pV_long)
  have Pgood : Hid (∀ S N : Int, formS u.data.toList = true → ¬ 15 < (bareZ (wholeS u.data.toList)).length → S = secS ng (numL 0 (bareZ (wholeS u.data.toList))) (numL 0 (nineL (partS u.data.toList))) (moreL (partS u.data.toList)) →
      N = nanoS ng (numL 0 (nineL (partS u.data.toList))) (moreL (partS u.data.toList)) → V = if timeB S N then (S, N, 0) else (0, 0, 2)) := Lib.hid (by rw [hu, hV, hng]; exact fun S N => pV_good)
  rw [← hV]
  have hstart : Hid ((ng = true ∧ ∃ r, s.data.toList = 45 :: r ∧ u = s.extract 1 s.size) ∨ (ng = false ∧ u = s ∧ (s.data.toList = [] ∨ ∃ c r, s.data.toList = c :: r ∧ c ≠ 45))) := Lib.hid (by
    rw [hu, hng]; exact neg_cases s)
  clear hV hu hng
  have hx0 : Ext w (w.alloc (.cells #[.int .i64 0, .int .i64 0] 51)) := (Ext.refl w).alloc _
  have hbS := get_bt s
  have hbU := get_bt u
  have CO := Lib.hid one_b
  go_enter Tryz.func17, Tryz.ntmps17
  go_upto_region 1 with fail
  go_cut [4] (fun g wx => g = .bool ng ∧ Ext (w.alloc (.cells #[.int .i64 0, .int .i64 0] 51)) wx)
  case first =>
    as_aux_lemma =>
      rcases hstart.out with ⟨hn, r, e1, _⟩ | ⟨hn, _, e1 | ⟨c, r, e1, hc⟩⟩
      · as_aux_lemma =>
          obtain ⟨z1, z2, z3, _⟩ := b_cons e1
          have z4 : (bt s 0 == 45) = true := by rw [z2]; rfl
          have z5 : 0 < s.size := by omega
          subst hn
          clear e1 z1 z2
          go_wp2_with fail
          go_meet
          exact ⟨rfl, Ext.refl _⟩
      · as_aux_lemma =>
          have z3 : s.toList.isEmpty = true := by rw [b_empty, e1]; rfl
          subst hn
          clear e1
          go_wp2_with fail
          go_meet
          exact ⟨rfl, Ext.refl _⟩
      · as_aux_lemma =>
          obtain ⟨z1, z2, z3, _⟩ := b_cons e1
          have z4 : (bt s 0 == 45) = false := by
            rw [z2, beq_eq_false_iff_ne]
            intro e
            exact hc (UInt8.toNat_inj.1 (by have : (c.toNat : Int) = 45 := e; show c.toNat = 45; omega))
          have z5 : 0 < s.size := by omega
          subst hn
          clear e1 z1 z2 hc
          go_wp2_with fail
          go_meet
          exact ⟨rfl, Ext.refl _⟩
  case rest =>
    obtain ⟨rfl, hE0⟩ := hcut
    go_upto_if 23 with fail
    go_cut [0] (fun v wx => v = .string u ∧ Ext (w.alloc (.cells #[.int .i64 0, .int .i64 0] 51)) wx)
    case first =>
      as_aux_lemma =>
        rcases hstart.out with ⟨hn, r, e1, e2⟩ | ⟨hn, e2, _⟩
        · as_aux_lemma =>
            obtain ⟨z1, _, _, _⟩ := b_cons e1
            have z5 : 1 ≤ s.size := by omega
            subst hn
            clear e1 z1
            go_wp2_with fail
            go_meet
            exact ⟨by rw [e2], hE0⟩
        · as_aux_lemma =>
            subst hn
            go_wp2_with fail
            go_meet
            exact ⟨by rw [e2], hE0⟩
    case rest =>
      obtain ⟨rfl, hE1⟩ := hcut
      clear hstart hbS hE0 hs
      go_wp2_with fail
      go_loopw [5, 28] (fun p i wr => ∃ (k : Nat) (q : Int), k ≤ u.size ∧ p = .int .i64 q ∧ i = .int .i64 (k : Int) ∧ -1 ≤ q ∧ q ≤ 100 ∧ Hid (scan (u.data.toList.drop k) k q = scan u.data.toList 0 (-1)) ∧ Ext (w.alloc (.cells #[.int .i64 0, .int .i64 0] 51)) wr) (fun _ i _ => u.size - (intOf i).toNat)
      case atStart => exact ⟨0, -1, by omega, rfl, rfl, by omega, by omega, Lib.hid rfl, hE1⟩
      case round =>
        obtain ⟨k, q, hk, rfl, rfl, hq1, hq2, hsc, hE⟩ := hrel
        by_cases hlt : k < u.size
        · as_aux_lemma =>
            obtain ⟨c, _, hc2', hc3⟩ := b_at hlt
            have hc2 := Lib.hid hc2'
            clear hc2'
            have hsc2 : Hid (scan u.data.toList 0 (-1) = if c == 46 && decide (q < 0) then scan (u.data.toList.drop (k + 1)) (k + 1) k else if dig c then scan (u.data.toList.drop (k + 1)) (k + 1) q else none) := Lib.hid (by
              have := hsc.out
              rw [hc3] at this
              exact this.symm)
            have hdg : dig c = (decide ((48 : Int) ≤ bt u k) && decide (bt u k ≤ 57)) := by
              unfold dig
              rw [hc2.out]
              congr 1
              · rw [decide_eq_decide]; omega
              · rw [decide_eq_decide]; omega
            have h46 : (c == 46) = (bt u k == 46) := by
              rw [hc2.out, Bool.eq_iff_iff, beq_iff_eq, beq_iff_eq, ← UInt8.toNat_inj]
              show c.toNat = 46 ↔ _
              omega
            have CW := Lib.hid (fun w => within_same (bt u k) 48 57 w)
            rw [← hdg] at CW
            rw [h46] at hsc2
            have hb0 := bt_nonneg u k
            have hb1 := bt_le u k
            have Hdg := Lib.hid hdg
            clear hc3 hdg h46 hsc hc2
            cases hd : dig c with
            | true =>
              have hdx := Hdg.out
              rw [hd] at hdx CW
              have hx1 : 48 ≤ bt u k := by
                have := hdx.symm
                rw [Bool.and_eq_true, decide_eq_true_eq] at this
                exact this.1
              have e : (bt u k == 46) = false := by rw [beq_eq_false_iff_ne]; omega
              have hn : Hid (scan (u.data.toList.drop (k + 1)) (k + 1) q = scan u.data.toList 0 (-1)) := Lib.hid (by rw [hsc2.out, e, hd]; rfl)
              clear hsc2 hd hdx
              go_wp2_with fail
              refine (CW.out _).mono ?_; rintro e w2 ⟨rfl, rfl⟩
              go_wp2_with fail
              go_roundw
              case rel => exact ⟨k + 1, q, hlt, rfl, by go_num, hq1, hq2, hn, hE⟩
              case measure => simp [intOf]; omega
            | false =>
              rw [hd] at CW
              by_cases h1 : (bt u k == 46) = true ∧ decide (q < 0) = true
              · obtain ⟨h1, h2⟩ := h1
                have hn : Hid (scan (u.data.toList.drop (k + 1)) (k + 1) k = scan u.data.toList 0 (-1)) := Lib.hid (by rw [hsc2.out, h1, h2]; rfl)
                clear hsc2 hd
                go_wp2_with fail
                go_roundw
                case rel => exact ⟨k + 1, k, hlt, rfl, by go_num, by omega, by omega, hn, hE⟩
                case measure => simp [intOf]; omega
              · have h3 : (bt u k == 46) = false ∨ ((bt u k == 46) = true ∧ decide (q < 0) = false) := by
                  rcases Bool.eq_false_or_eq_true (bt u k == 46) with e | e
                  · rcases Bool.eq_false_or_eq_true (decide (q < 0)) with e2 | e2
                    · exact absurd ⟨e, e2⟩ h1
                    · exact .inr ⟨e, e2⟩
                  · exact .inl e
                have hn : Hid (V = (0, 0, 3)) := Lib.hid (Pform.out (by
                  have : scan u.data.toList 0 (-1) = none := by
                    rw [hsc2.out, hd]
                    rcases h3 with e | ⟨e, e2⟩
                    · rw [e]; rfl
                    · rw [e, e2]; rfl
                  rcases scan_cut u.data.toList with ⟨_, h⟩ | ⟨h, _⟩ | ⟨p, h, _⟩
                  · exact h
                  · rw [this] at h; cases h
                  · rw [this] at h; cases h))
                obtain ⟨r1, r2, r3, r4, r5⟩ := tp_box hE
                clear hsc2 hd h1
                rcases h3 with e | ⟨e, e2⟩
                all_goals
                  go_wp2_with fail
                  refine (CW.out _).mono ?_; rintro e w2 ⟨rfl, rfl⟩
                  go_wp2_with fail
                  rw [hn.out]
                  obtain ⟨s0, s1⟩ := tp_put r1 r2 (.int .i64 0) (.int .i64 0)
                  exact bodyPost_ret (v := .tuple #[.agg #[.int .i64 0, .int .i64 0], .int .i64 3]) (by simp [results, Tryz.results17, go_sem, s0, s1]) rfl ⟨rfl, ((hx0.trans hE).setCell (Nat.le_refl _) _).setCell (Nat.le_refl _) _⟩
        · obtain rfl : k = u.size := by omega
          have hsc3 : scan u.data.toList 0 (-1) = some q := by
            rw [← hsc.out, List.drop_eq_nil_of_le (by exact Nat.le_refl _)]
            rfl
          obtain ⟨W, P, pt, hW, hP, hpt, hWd, hPd, hfm, hWz, hPz, hway⟩ := scan_end u q hsc3
          have HW := Lib.hid hW
          have HP := Lib.hid hP
          have HWd := Lib.hid hWd
          have HPd := Lib.hid hPd
          have Hfm := Lib.hid hfm
          have Hway := Lib.hid hway
          have hqp : decide (0 ≤ q) = pt := by
            rcases hway with ⟨h1, h2, _⟩ | ⟨h1, p, h2, _⟩
            · rw [h1, h2]; rfl
            · rw [h1, h2]; exact decide_eq_true (by omega)
          clear hW hP hWd hPd hfm hway hsc hsc3 hpt
          go_upto_if 52 with fail
          go_cut [7, 8] (fun a b wx => a = .string W ∧ b = .string P ∧ Ext (w.alloc (.cells #[.int .i64 0, .int .i64 0] 51)) wx)
          case first =>
            as_aux_lemma =>
              rcases Hway.out with ⟨h1, h2, h3, h4⟩ | ⟨h1, p, h2, h3, h4, h5⟩
              · as_aux_lemma =>
                  subst h1
                  subst h2
                  go_wp2_with fail
                  go_meet
                  exact ⟨by rw [h3], by rw [h4], hE⟩
              · as_aux_lemma =>
                  subst h1 h2
                  go_wp2_with fail
                  refine wp_region_det (Stood _) (by kernel_rfl) (by kernel_rfl) (Stood.start _) ?_
                  repeat (first
                    | (refine det_skip (by rfl) ?_; simp only [Act.put, List.setIfInBounds_toArray, List.set_cons_zero, List.set_cons_succ])
                    | (refine det_op (v := ?_) rfl (by rfl) (fun w' hS => ?_) ?_; rotate_left; (focus (obtain ⟨hcl, hxt⟩ := hS; go_wp2_with (fail); (first | refine ⟨?_, rfl, hcl, hxt⟩ | refine ⟨?_, rfl, Stood.of (hxt.trans (by assumption))⟩); (first | (simp only [List.getElem?_toArray, List.getElem?_cons_succ, List.getElem?_cons_zero]; rfl) | rfl))); simp only [Act.put, List.setIfInBounds_toArray, List.set_cons_zero, List.set_cons_succ]))
                  refine det_end ?_
                  intro w2 hS
                  have hx2 := hS.2
                  clear hS
                  go_wp2_with fail
                  go_meet
                  exact ⟨by rw [h4], by rw [h5], hE.trans hx2⟩
          case rest =>
            obtain ⟨rfl, rfl, hE2⟩ := hcut
            clear hE Hway hlt hk
            go_upto_region 16 with fail
            go_cut [69] (fun g wx => g = .bool (!formS u.data.toList) ∧ Ext (w.alloc (.cells #[.int .i64 0, .int .i64 0] 51)) wx)
            case first =>
              as_aux_lemma =>
                cases hq1 : W.toList.isEmpty
                · as_aux_lemma =>
                    cases pt
                    · go_wp2_with fail
                      go_meet
                      exact ⟨by rw [Hfm.out, hq1]; rfl, hE2⟩
                    · cases hq2 : P.toList.isEmpty
                      all_goals
                        go_wp2_with fail
                        go_meet
                        exact ⟨by rw [Hfm.out, hq1, hq2]; rfl, hE2⟩
                · as_aux_lemma =>
                    go_wp2_with fail
                    go_meet
                    exact ⟨by rw [Hfm.out, hq1]; rfl, hE2⟩
            case rest =>
              obtain ⟨rfl, hE3⟩ := hcut
              clear hE2
              cases hf : formS u.data.toList with
              | false =>
                as_aux_lemma =>
                  have hn : Hid (V = (0, 0, 3)) := Lib.hid (Pform.out hf)
                  obtain ⟨r1, r2, r3, r4, r5⟩ := tp_box hE3
                  clear hf
                  go_wp2_with fail
                  rw [hn.out]
                  obtain ⟨s0, s1⟩ := tp_put r1 r2 (.int .i64 0) (.int .i64 0)
                  exact bodyPost_ret (v := .tuple #[.agg #[.int .i64 0, .int .i64 0], .int .i64 3]) (by simp [results, Tryz.results17, go_sem, s0, s1]) rfl ⟨rfl, ((hx0.trans hE3).setCell (Nat.le_refl _) _).setCell (Nat.le_refl _) _⟩
              | true =>
                have hWne : W.data.toList ≠ [] := fun h => by
                  have := Hfm.out
                  rw [hf, b_empty W, h] at this
                  cases this
                have Hf := Lib.hid hf
                clear hf
                go_wp2_with fail
                go_loopw [7] (fun v wr => ∃ x : ByteArray, v = .string x ∧ Hid (x.data.toList ≠ [] ∧ x.data.toList.all dig = true ∧ stripL x.data.toList = stripL W.data.toList) ∧ x.size ≤ 100 ∧ Ext (w.alloc (.cells #[.int .i64 0, .int .i64 0] 51)) wr) (fun v _ => match v with | .string x => x.size | _ => 0)
                case atStart => exact ⟨W, rfl, Lib.hid ⟨hWne, HWd.out, rfl⟩, by omega, hE3⟩
                case round =>
                  obtain ⟨x, rfl, hx, hxz, hE⟩ := hrel
                  obtain ⟨c, r, hcr⟩ : ∃ c r, x.data.toList = c :: r := by
                    cases h : x.data.toList with
                    | nil => exact absurd h hx.out.1
                    | cons c r => exact ⟨c, r, rfl⟩
                  obtain ⟨z1, z2, z3, z4⟩ := b_cons hcr
                  have hbX := get_bt x
                  have q5 : 0 < x.size := by omega
                  by_cases h1 : r ≠ [] ∧ c = 48
                  · as_aux_lemma =>
                      obtain ⟨h1, h2⟩ := h1
                      have h3 : 0 < r.length := List.length_pos_iff.2 h1
                      have q1 : decide ((1 : Int) < (x.size : Int)) = true := decide_eq_true (by omega)
                      have q2 : (bt x 0 == 48) = true := by rw [z2, h2]; rfl
                      have hn : Hid ((x.extract 1 x.size).data.toList ≠ [] ∧ (x.extract 1 x.size).data.toList.all dig = true ∧ stripL (x.extract 1 x.size).data.toList = stripL W.data.toList) := Lib.hid (by
                        obtain ⟨_, g1, g2⟩ := hx.out
                        rw [hcr] at g1 g2
                        rw [List.all_cons, Bool.and_eq_true] at g1
                        rw [z4]
                        exact ⟨h1, g1.2, by rw [← g2, strip_step h2]⟩)
                      have hsz : (x.extract 1 x.size).size ≤ 100 ∧ (x.extract 1 x.size).size < x.size := by rw [ByteArray.size_extract]; omega
                      have Hsz := Lib.hid hsz
                      clear z1 z2 z3 z4 hcr h1 h2 h3 hx hsz
                      go_wp2_with fail
                      go_roundw
                      case rel => exact ⟨x.extract 1 x.size, rfl, hn, Hsz.out.1, hE⟩
                      case measure => exact Hsz.out.2
                  · have hend : stripL W.data.toList = x.data.toList := by
                      obtain ⟨_, g1, g2⟩ := hx.out
                      rw [hcr] at g1 g2
                      rw [← g2, hcr]
                      refine strip_end ?_ g1
                      by_cases hr : r = []
                      · exact .inl hr
                      · exact .inr fun hc => h1 ⟨hr, hc⟩
                    have Hend := Lib.hid hend
                    have hxd := Lib.hid hx.out.2.1
                    go_upto_region 18 with fail
                    go_cut [78] (fun g wx => g = .bool false ∧ Ext (w.alloc (.cells #[.int .i64 0, .int .i64 0] 51)) wx)
                    case first =>
                      as_aux_lemma =>
                        by_cases hr : r = []
                        · as_aux_lemma =>
                            have q1 : decide ((1 : Int) < (x.size : Int)) = false := decide_eq_false (by rw [z1, hr]; decide)
                            clear z1 z2 z3 z4 hcr h1 hx hend
                            go_wp2_with fail
                            go_meet
                            exact ⟨rfl, hE⟩
                        · as_aux_lemma =>
                            have h3 : 0 < r.length := List.length_pos_iff.2 hr
                            have q1 : decide ((1 : Int) < (x.size : Int)) = true := decide_eq_true (by omega)
                            have q2 : (bt x 0 == 48) = false := by
                              rw [z2, beq_eq_false_iff_ne]
                              intro e
                              exact h1 ⟨hr, UInt8.toNat_inj.1 (by have : (c.toNat : Int) = 48 := e; show c.toNat = 48; omega)⟩
                            clear z1 z2 z3 z4 hcr h1 hx hend
                            go_wp2_with fail
                            go_meet
                            exact ⟨rfl, hE⟩
                    case rest =>
                      obtain ⟨rfl, hE4⟩ := hcut
                      clear z1 z2 z3 z4 hcr h1 hx hend hE hE3
                      obtain ⟨t1, t2, t3, t4⟩ := strip_num HWd.out
                      rw [Hend.out] at t1 t2 t3 t4
                      rw [HW.out] at t3 t4
                      have hxl : x.data.toList.length = x.size := rfl
                      rw [hxl] at t4
                      by_cases h15 : 15 < x.size
                      · as_aux_lemma =>
                          have hn : Hid (V = (0, 0, 2)) := Lib.hid (Plong.out Hf.out (by
                            have := t4.symm
                            rw [decide_eq_true h15, decide_eq_true_eq] at this
                            exact this))
                          obtain ⟨r1, r2, r3, r4, r5⟩ := tp_box hE4
                          have q1 : decide ((15 : Int) < (x.size : Int)) = true := decide_eq_true (by omega)
                          clear t1 t2 t3 t4 hxl
                          go_wp2_with fail
                          rw [hn.out]
                          obtain ⟨s0, s1⟩ := tp_put r1 r2 (.int .i64 0) (.int .i64 0)
                          exact bodyPost_ret (v := .tuple #[.agg #[.int .i64 0, .int .i64 0], .int .i64 2]) (by simp [results, Tryz.results17, go_sem, s0, s1]) rfl ⟨rfl, ((hx0.trans hE4).setCell (Nat.le_refl _) _).setCell (Nat.le_refl _) _⟩
                      · have h15b : ¬ 15 < (bareZ (wholeS u.data.toList)).length := by
                          have := t4.symm
                          rw [decide_eq_false h15, decide_eq_false_iff_not] at this
                          exact this
                        have q1 : decide ((15 : Int) < (x.size : Int)) = false := decide_eq_false (by omega)
                        have CA := Lib.hid (fun w => atoi_num_any x (by omega) t1 t2 w)
                        have hsec := num15 t1 (by omega)
                        have Hsec := Lib.hid t3
                        rw [t3] at CA hsec
                        have Pg := Lib.hid (fun S N => Pgood.out S N Hf.out h15b)
                        rw [← HP.out] at Pg
                        generalize numL 0 (bareZ (wholeS u.data.toList)) = sec at *
                        clear t1 t2 t3 t4 hxl h15b Pgood Plong Pform hWne Hsec
                        go_wp2_with fail
                        refine (CA.out _).mono ?_; rintro e w5 ⟨rfl, hx5⟩
                        have hE5 := hE4.trans hx5
                        clear hE4 hx5 CA
                        go_wp2_with fail
                        go_loopw [11, 12, 13] (fun a b i wr => ∃ k : Nat, k ≤ max P.size 9 ∧ a = .int .i64 ((numL 0 ((nineL P.data.toList).take k) : Nat) : Int) ∧ b = .bool (moreAt P.data.toList k) ∧ i = .int .i64 (k : Int) ∧ Ext (w.alloc (.cells #[.int .i64 0, .int .i64 0] 51)) wr) (fun _ _ i _ => max P.size 9 - (intOf i).toNat)
                        case atStart => exact ⟨0, Nat.zero_le _, rfl, by rw [more_none _ (by decide)], rfl, hE5⟩
                        case round =>
                          obtain ⟨k, hk, rfl, rfl, rfl, hE⟩ := hrel
                          have hn9 := nine_small P.data.toList HPd.out k
                          by_cases hlt : k < max P.size 9
                          · as_aux_lemma =>
                              have hcond : (k : Int) < max (P.size : Int) 9 := by omega
                              have hbP := get_bt P
                              by_cases h1 : k < P.size
                              · obtain ⟨c, hc1, hc2, _⟩ := b_at h1
                                have hcd : dig c = true := List.all_eq_true.1 HPd.out c (List.mem_of_getElem? hc1)
                                unfold dig at hcd
                                rw [Bool.and_eq_true, decide_eq_true_eq, decide_eq_true_eq] at hcd
                                have hb0 : 48 ≤ bt P k := by rw [hc2]; omega
                                have hb1 : bt P k ≤ 57 := by rw [hc2]; omega
                                have hda : Hid (((digAt P.data.toList k : Nat) : Int) = bt P k - 48) := Lib.hid (by
                                  unfold digAt
                                  rw [if_pos (show k < P.data.toList.length from h1), List.getD_eq_getElem?_getD, hc1, hc2]
                                  show ((c.toNat - 48 : Nat) : Int) = _
                                  omega)
                                clear hc1 hc2 hcd
                                by_cases h9 : k < 9
                                · have hst := Lib.hid (nine_step P.data.toList h9)
                                  have hm1 := Lib.hid (more_none P.data.toList (i := k) (by omega))
                                  have hm2 := Lib.hid (more_none P.data.toList (i := k + 1) (by omega))
                                  have hva : Hid (((numL 0 ((nineL P.data.toList).take k) : Nat) : Int) * 10 + (bt P k - 48) = ((numL 0 ((nineL P.data.toList).take (k + 1)) : Nat) : Int)) := Lib.hid (by
                                    rw [hst.out, ← hda.out]; omega)
                                  generalize numL 0 ((nineL P.data.toList).take k) = n at *
                                  go_wp2_with fail
                                  go_roundw
                                  case rel => exact ⟨k + 1, hlt, by rw [← hva.out], by rw [hm1.out, hm2.out], by go_num, hE⟩
                                  case measure => simp [intOf]; omega
                                · have hst : Hid (numL 0 ((nineL P.data.toList).take (k + 1)) = numL 0 ((nineL P.data.toList).take k)) := Lib.hid (by
                                    rw [List.take_of_length_le (by rw [nine_len]; omega), List.take_of_length_le (by rw [nine_len]; omega)])
                                  have hms := Lib.hid (more_step HPd.out (by omega) (show k < P.data.toList.length from h1))
                                  have hdd : Hid (decide (0 < digAt P.data.toList k) = decide (0 < bt P k - 48)) := Lib.hid (by
                                    rw [← hda.out, decide_eq_decide]; omega)
                                  generalize numL 0 ((nineL P.data.toList).take k) = n at *
                                  cases hm : moreAt P.data.toList k with
                                  | true =>
                                    have hm2 : Hid (moreAt P.data.toList (k + 1) = true) := Lib.hid (by rw [hms.out, hm]; rfl)
                                    clear hm
                                    go_wp2_with fail
                                    go_roundw
                                    case rel => exact ⟨k + 1, hlt, by rw [hst.out], by rw [hm2.out], by go_num, hE⟩
                                    case measure => simp [intOf]; omega
                                  | false =>
                                    have hm2 : Hid (moreAt P.data.toList (k + 1) = decide (48 < bt P k)) := Lib.hid (by rw [hms.out, hm, Bool.false_or, hdd.out, decide_eq_decide]; omega)
                                    clear hm
                                    go_wp2_with fail
                                    go_roundw
                                    case rel => exact ⟨k + 1, hlt, by rw [hst.out], by rw [hm2.out], by go_num, hE⟩
                                    case measure => simp [intOf]; omega
                              · have h9 : k < 9 := by omega
                                have hst := Lib.hid (nine_step P.data.toList h9)
                                have hm1 := Lib.hid (more_none P.data.toList (i := k) (by omega))
                                have hm2 := Lib.hid (more_none P.data.toList (i := k + 1) (by omega))
                                have hda : Hid (digAt P.data.toList k = 0) := Lib.hid (by
                                  unfold digAt
                                  rw [if_neg (show ¬ k < P.data.toList.length from h1)])
                                have hva : Hid (((numL 0 ((nineL P.data.toList).take k) : Nat) : Int) * 10 = ((numL 0 ((nineL P.data.toList).take (k + 1)) : Nat) : Int)) := Lib.hid (by
                                  rw [hst.out, hda.out]; omega)
                                generalize numL 0 ((nineL P.data.toList).take k) = n at *
                                go_wp2_with fail
                                go_roundw
                                case rel => exact ⟨k + 1, hlt, by rw [← hva.out]; try simp, by rw [hm1.out, hm2.out], by go_num, hE⟩
                                case measure => simp [intOf]; omega
                          · obtain rfl : k = max P.size 9 := by omega
                            have hcond : ¬ ((max P.size 9 : Nat) : Int) < max (P.size : Int) 9 := by omega
                            have e1 : (nineL P.data.toList).take (max P.size 9) = nineL P.data.toList := List.take_of_length_le (by rw [nine_len]; omega)
                            have e2 : moreAt P.data.toList (max P.size 9) = moreL P.data.toList := more_all (show P.data.toList.length ≤ _ by show P.size ≤ _; omega)
                            rw [e1] at hn9
                            rw [e1, e2]
                            clear e1 e2
                            generalize numL 0 (nineL P.data.toList) = nano at *
                            generalize moreL P.data.toList = more at *
                            generalize max P.size 9 = M at *
                            go_upto_if 117 with fail
                            go_cut [9, 11] (fun a b wx => a = .int .i64 (secS ng sec nano more) ∧ b = .int .i64 (nanoS ng nano more) ∧ Ext (w.alloc (.cells #[.int .i64 0, .int .i64 0] 51)) wx)
                            case first =>
                              as_aux_lemma =>
                                cases ng with
                                | false =>
                                  as_aux_lemma =>
                                    go_wp2_with fail
                                    go_meet
                                    exact ⟨rfl, rfl, hE⟩
                                | true =>
                                  have C1 := Lib.hid (fun w => one_b more w)
                                  have hmn : more.toNat ≤ 1 := by cases more <;> decide
                                  generalize hmm : more.toNat = mn at *
                                  have Hmm := Lib.hid hmm
                                  clear hmm
                                  go_wp2_with fail
                                  refine (C1.out _).mono ?_; rintro e w6 ⟨rfl, rfl⟩
                                  go_wp2_with fail
                                  go_loopw [9, 11] (fun a b wr => ((a = .int .i64 (-(sec : Int)) ∧ b = .int .i64 (-(nano : Int) - mn)) ∨ (0 < nano + mn ∧ a = .int .i64 (-(sec : Int) - 1) ∧ b = .int .i64 (1000000000 - (nano + mn)))) ∧ Ext (w.alloc (.cells #[.int .i64 0, .int .i64 0] 51)) wr) (fun _ b _ => (if intOf b < 0 then 1 else 0))
                                  case atStart => exact ⟨.inl ⟨rfl, rfl⟩, hE⟩
                                  case round =>
                                    obtain ⟨⟨rfl, rfl⟩ | ⟨hp, rfl, rfl⟩, hE⟩ := hrel
                                    · as_aux_lemma =>
                                        by_cases hp : 0 < nano + mn
                                        · have hc : -(nano : Int) - (mn : Int) < 0 := by omega
                                          go_wp2_with fail
                                          go_roundw
                                          case rel => exact ⟨.inr ⟨hp, rfl, by congr 1; omega⟩, hE⟩
                                          case measure =>
                                            have m1 : ¬ (-(nano : Int) - (mn : Int) + 1000000000) < 0 := by omega
                                            show (if (-(nano : Int) - (mn : Int) + 1000000000) < 0 then 1 else 0) < (if (-(nano : Int) - (mn : Int)) < 0 then 1 else 0)
                                            rw [if_pos hc, if_neg m1]
                                            decide
                                        · have hc : ¬ -(nano : Int) - (mn : Int) < 0 := by omega
                                          go_wp2_with fail
                                          go_meet
                                          refine ⟨?_, ?_, hE⟩
                                          · unfold secS; rw [Hmm.out, if_pos rfl, if_neg hp]
                                          · unfold nanoS; rw [Hmm.out, if_pos rfl, if_neg hp]; congr 1; omega
                                    · as_aux_lemma =>
                                        have hc : ¬ 1000000000 - ((nano : Int) + (mn : Int)) < 0 := by omega
                                        go_wp2_with fail
                                        go_meet
                                        refine ⟨?_, ?_, hE⟩
                                        · unfold secS; rw [Hmm.out, if_pos rfl, if_pos hp]
                                        · unfold nanoS; rw [Hmm.out, if_pos rfl, if_pos hp]; congr 1; try omega
                            case rest =>
                              obtain ⟨rfl, rfl, hE6⟩ := hcut
                              have hV2 := Lib.hid (Pg.out _ _ rfl rfl)
                              clear Pg hE hE5 hn9 hsec hlt
                              generalize secS ng sec nano more = S at *
                              generalize nanoS ng nano more = N at *
                              have C7 := Lib.hid (fun w => timeRight_any S N w)
                              go_wp2_with fail
                              refine (C7.out _).mono ?_; rintro e w8 ⟨rfl, hx8⟩
                              have hE8 := (hE6.alloc _).trans hx8
                              obtain ⟨r1, r2, r3, r4, r5⟩ := tp_box hE8
                              obtain ⟨g1, g2, g3, g4, g5⟩ := tp_box hx8
                              have hy8 := hx0.trans hE8
                              have hne : w.heap.size ≠ wc.heap.size := by
                                have := hE6.size
                                rw [World.size_alloc] at this
                                omega
                              clear hx8 hE6 hE8 C7
                              cases ht : timeB S N with
                              | true =>
                                as_aux_lemma =>
                                  have hn : Hid (V = (S, N, 0)) := Lib.hid (by rw [hV2.out, ht]; rfl)
                                  clear ht
                                  go_wp2_with fail
                                  rw [hn.out]
                                  obtain ⟨s0, s1⟩ := tp_put r1 r2 (.int .i64 S) (.int .i64 N)
                                  exact bodyPost_ret (v := .tuple #[.agg #[.int .i64 S, .int .i64 N], .int .i64 0]) (by simp [results, Tryz.results17, go_sem, s0, s1]) rfl ⟨rfl, (hy8.setCell (Nat.le_refl _) _).setCell (Nat.le_refl _) _⟩
                              | false =>
                                as_aux_lemma =>
                                  have hn : Hid (V = (0, 0, 2)) := Lib.hid (by rw [hV2.out, ht]; rfl)
                                  clear ht
                                  go_wp2_with fail
                                  rw [hn.out]
                                  obtain ⟨s0, s1⟩ := tp_put r1 r2 (.int .i64 0) (.int .i64 0)
                                  exact bodyPost_ret (v := .tuple #[.agg #[.int .i64 0, .int .i64 0], .int .i64 2]) (by simp [results, Tryz.results17, go_sem, s0, s1]) rfl ⟨rfl, (hy8.setCell (Nat.le_refl _) _).setCell (Nat.le_refl _) _⟩
end Go.Proofs.YtbofobakphlpbaaGreatDoor
