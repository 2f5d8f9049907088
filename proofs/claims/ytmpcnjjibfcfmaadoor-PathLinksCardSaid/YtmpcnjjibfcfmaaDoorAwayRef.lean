/-
  The reference's Away, of names with parts.
-/
import Derived.Test.YtmpcnjjibfcfmaaDoorAway
namespace Go.Proofs.YtmpcnjjibfcfmaaDoor
open Go.RowKit Go.WideShapes

set_option maxHeartbeats 3200000 in
set_option maxRecDepth 100000 in
theorem refAway_any (a b : ByteArray) (ha : a.size ≤ 1000) (hb : b.size ≤ 1000) (hA : 1 ≤ (partsB a).length) (hB : 1 ≤ (partsB b).length) (w : World) (hm : HasMax w) :
    Calls Tryd.prog 36 #[.string a, .string b] w fun e w' => e = .returned (.string (awayV (partsB a) (partsB b))) ∧ Ext w w' := by
  have C1 := Lib.hid (fun w hm => refParts_any a (by omega) w hm)
  have C2 := Lib.hid (fun w hm => refParts_any b (by omega) w hm)
  have l1 : (partsB a).length ≤ 1001 := by have := parts_le a; omega
  have l2 : (partsB b).length ≤ 1001 := by have := parts_le b; omega
  have hsz := Lib.hid (fun n => joinV_size (B := partsB b) (m := b.size) (fun x hx => part_size hx) n)
  generalize partsB a = A at *
  generalize partsB b = B at *
  have hsz2 : Hid (∀ n, (Lib.join ((B.drop n).map (·.data.toList)) [47]).length ≤ 1002001) := Lib.hid (fun n => by
    have h1 := hsz.out n
    have h2 : B.length * (b.size + 1) ≤ 1001 * 1001 := Nat.mul_le_mul l2 (by omega)
    omega)
  clear hsz
  go_enter Tryd.func36, Tryd.ntmps36
  go_wp2_with fail
  refine (C1.out _ hm).mono ?_; rintro e w1 ⟨u, rfl, h1, hx1⟩
  go_wp2_with fail
  refine (C2.out _ (hm.ext hx1)).mono ?_; rintro e w2 ⟨v, rfl, h2, hx2⟩
  have h1' := h1.ext hx2
  obtain ⟨oa, cap1, rfl, _, hc1⟩ := h1'.open
  obtain ⟨ob, cap2, rfl, _, hc2⟩ := h2.open
  obtain ⟨b1, o1, rfl, _⟩ := hc1 0 (by omega)
  obtain ⟨b2, o2, rfl, _⟩ := hc2 0 (by omega)
  have hcapB : B.length ≤ cap2 ∧ cap2 ≤ 9223372036854775807 := by
    rcases h2 with ⟨⟨_, _, e⟩, hn⟩ | ⟨_, _, _, e, h, h', _⟩
    · rw [hn] at hB; simp at hB
    · cases e; unfold maxLen at h'; exact ⟨h, by omega⟩
  have hcapA : A.length ≤ cap1 ∧ cap1 ≤ 9223372036854775807 := by
    rcases h1' with ⟨⟨_, _, e⟩, hn⟩ | ⟨_, _, _, e, h, h', _⟩
    · rw [hn] at hA; simp at hA
    · cases e; unfold maxLen at h'; exact ⟨h, by omega⟩
  have Hc1 := Lib.hid hc1
  have Hc2 := Lib.hid hc2
  have H2 := Lib.hid h2
  have HcA := Lib.hid hcapA
  have HcB := Lib.hid hcapB
  clear h1 h1' h2 hc1 hc2 C1 C2 hcapA hcapB
  go_wp2_with fail
  go_loopw [5, 6] (fun u v wr => ∃ (k m1 m2 p1 p2 q1 q2 : Nat), u = .slice (some ⟨b1, p1, none⟩) (m1 + 1) (q1 + 1) ∧ v = .slice (some ⟨b2, p2, none⟩) (m2 + 1) (q2 + 1) ∧ m1 + 1 + k = A.length ∧ m2 + 1 + k = B.length ∧ p1 = o1 + k ∧ p2 = o2 + k ∧ q1 + 1 + k = cap1 ∧ q2 + 1 + k = cap2 ∧ cn A B = k + cn (A.drop k) (B.drop k) ∧ Ext w2 wr) (fun u _ _ => match u with | .slice _ n _ => n | _ => 0)
  case atStart =>
    have := HcA.out
    have := HcB.out
    obtain ⟨x1, e1⟩ : ∃ x, A.length = x + 1 := ⟨A.length - 1, by omega⟩
    obtain ⟨x2, e2⟩ : ∃ x, B.length = x + 1 := ⟨B.length - 1, by omega⟩
    obtain ⟨y1, e3⟩ : ∃ x, cap1 = x + 1 := ⟨cap1 - 1, by omega⟩
    obtain ⟨y2, e4⟩ : ∃ x, cap2 = x + 1 := ⟨cap2 - 1, by omega⟩
    exact ⟨0, x1, x2, o1, o2, y1, y2, by rw [e1, e3], by rw [e2, e4], by omega, by omega, rfl, rfl, by omega, by omega, by simp, Ext.refl _⟩
  case round =>
    obtain ⟨k, m1, m2, p1, p2, q1, q2, rfl, rfl, hm1, hm2, hp1, hp2, hq1, hq2, hC, hE⟩ := hrel
    have HC := Lib.hid hC
    clear hC
    obtain ⟨_, _, e1, g1'⟩ := Hc1.out k (by omega)
    cases e1
    obtain ⟨_, _, e1, g2'⟩ := Hc2.out k (by omega)
    cases e1
    rw [← hp1] at g1'
    rw [← hp2] at g2'
    have g1 := hE.cell g1'
    have g2 := hE.cell g2'
    clear g1' g2'
    have lb1 : b1 < wr.heap.size := World.block_lt_of_cell? wr _ g1
    have lb2 : b2 < wr.heap.size := World.block_lt_of_cell? wr _ g2
    have Fin := Lib.hid (fun h : cn (A.drop k) (B.drop k) = 0 => (show awayV A B = upsB m1 ++ joinV (B.drop k) by unfold awayV; rw [HC.out, h, show A.length - 1 - (k + 0) = m1 by omega]; rfl))
    generalize hx : A[k] = x at g1
    generalize hy : B[k] = y at g2
    have hstep : Hid (k + 1 < A.length → k + 1 < B.length → (x.toList == y.toList) = true → cn (A.drop k) (B.drop k) = cn (A.drop (k + 1)) (B.drop (k + 1)) + 1) := Lib.hid (fun h1 h2 h => cn_step h1 h2 (by rw [hx, hy]; exact h))
    have hpart : Hid (k + 1 < A.length → k + 1 < B.length → (x.toList == y.toList) = false → cn (A.drop k) (B.drop k) = 0) := Lib.hid (fun h1 h2 h => cn_part h1 h2 (by rw [hx, hy]; exact h))
    clear hx hy
    have hend := Lib.hid (fun h => cn_end (A := A) (B := B) (k := k) h)
    have hkd := H2.out.dropk (show k < B.length by omega)
    rw [← hp2, show B.length - k = m2 + 1 by omega, show cap2 - k = q2 + 1 by omega] at hkd
    have HJ := Lib.hid (fun w' (hx : Ext wr w') => join_any w' _ _ (hkd.ext (hE.trans hx)) (by have := hsz2.out k; omega) (by rw [List.length_drop]; omega))
    have hq1a : m1 ≤ q1 := by have := HcA.out; omega
    have hq2a : m2 ≤ q2 := by have := HcB.out; omega
    have hq1b : q1 ≤ 9223372036854775806 := by have := HcA.out; omega
    have hq2b : q2 ≤ 9223372036854775806 := by have := HcB.out; omega
    have E1 := Lib.hid hm1
    have E2 := Lib.hid hm2
    have E3 := Lib.hid hp1
    have E4 := Lib.hid hp2
    have E5 := Lib.hid hq1
    have E6 := Lib.hid hq2
    have hlt1 : k + 1 < A.length ↔ 0 < m1 := by omega
    have hlt2 : k + 1 < B.length ↔ 0 < m2 := by omega
    have Hlt1 := Lib.hid hlt1
    have Hlt2 := Lib.hid hlt2
    have hm1s : m1 ≤ 1001 := by omega
    have hm2s : m2 ≤ 1001 := by omega
    have hjs : (joinV (B.drop k)).size ≤ 2000000 := by have := hsz2.out k; rw [joinV_bytes]; omega
    clear hm1 hm2 hp1 hp2 hq1 hq2 hlt1 hlt2 hkd
    by_cases h1 : 0 < m1
    · have t1 : (1 : Int) < (m1 : Int) + 1 := by omega
      by_cases h2 : 0 < m2
      · have t2 : (1 : Int) < (m2 : Int) + 1 := by omega
        have Hs2 := Lib.hid (hstep.out (Hlt1.out.2 h1) (Hlt2.out.2 h2))
        have Hp2 := Lib.hid (hpart.out (Hlt1.out.2 h1) (Hlt2.out.2 h2))
        cases hq : (x.toList == y.toList) with
        | true =>
          have hC2 := Lib.hid (Hs2.out hq)
          obtain ⟨m1, rfl⟩ : ∃ z, m1 = z + 1 := ⟨m1 - 1, by omega⟩
          obtain ⟨m2, rfl⟩ : ∃ z, m2 = z + 1 := ⟨m2 - 1, by omega⟩
          obtain ⟨q1, rfl⟩ : ∃ z, q1 = z + 1 := ⟨q1 - 1, by omega⟩
          obtain ⟨q2, rfl⟩ : ∃ z, q2 = z + 1 := ⟨q2 - 1, by omega⟩
          have t3 : (1 : Int) < (m1 : Int) + 1 + 1 := by omega
          have t4 : (1 : Int) < (m2 : Int) + 1 + 1 := by omega
          clear t1 t2
          go_wp2_with fail
          refine wp_region_det (Stood _) (by kernel_rfl) (by kernel_rfl) (Stood.start _) ?_
          repeat (first
            | (refine det_skip (by rfl) ?_; simp only [Act.put, List.setIfInBounds_toArray, List.set_cons_zero, List.set_cons_succ])
            | (refine det_op (v := ?_) rfl (by rfl) (fun w' hS => ?_) ?_; rotate_left; (focus (obtain ⟨hcl, hxt⟩ := hS; go_wp2_with (fail); (first | refine ⟨?_, rfl, hcl, hxt⟩ | refine ⟨?_, rfl, Stood.of (hxt.trans (by assumption))⟩); (first | (simp only [List.getElem?_toArray, List.getElem?_cons_succ, List.getElem?_cons_zero]; rfl) | rfl))); simp only [Act.put, List.setIfInBounds_toArray, List.set_cons_zero, List.set_cons_succ]))
          refine det_end ?_
          intro w5 hS
          have hx5 := hS.2
          clear hS
          go_wp2_with fail
          refine wp_region_det (Stood _) (by kernel_rfl) (by kernel_rfl) (Stood.start _) ?_
          repeat (first
            | (refine det_skip (by rfl) ?_; simp only [Act.put, List.setIfInBounds_toArray, List.set_cons_zero, List.set_cons_succ])
            | (refine det_op (v := ?_) rfl (by rfl) (fun w' hS => ?_) ?_; rotate_left; (focus (obtain ⟨hcl, hxt⟩ := hS; go_wp2_with (fail); (first | refine ⟨?_, rfl, hcl, hxt⟩ | refine ⟨?_, rfl, Stood.of (hxt.trans (by assumption))⟩); (first | (simp only [List.getElem?_toArray, List.getElem?_cons_succ, List.getElem?_cons_zero]; rfl) | rfl))); simp only [Act.put, List.setIfInBounds_toArray, List.set_cons_zero, List.set_cons_succ]))
          refine det_end ?_
          intro w6 hS
          have hx6 := hS.2
          clear hS
          go_wp2_with fail
          go_roundw
          case rel => exact ⟨k + 1, m1, m2, p1 + 1, p2 + 1, q1, q2, rfl, rfl, by have := E1.out; omega, by have := E2.out; omega, by have := E3.out; omega, by have := E4.out; omega, by have := E5.out; omega, by have := E6.out; omega, by rw [HC.out, hC2.out]; omega, hE.trans (hx5.trans hx6)⟩
          case measure => simp
        | false =>
          have hC2 := Lib.hid (Fin.out (Hp2.out hq))
          obtain ⟨AA, hAA⟩ : ∃ AA : Addr, (if q1 = 0 then some (⟨b1, p1, none⟩ : Addr) else some ⟨b1, p1 + 1, none⟩) = some AA := by
            by_cases h : q1 = 0
            · exact ⟨_, if_pos h⟩
            · exact ⟨_, if_neg h⟩
          have hq7 : (1 : Int) ≤ (q1 : Int) + 1 := by omega
          have hq8 : (m1 : Int) ≤ (q1 : Int) := by omega
          go_wp2_with fail
          refine wp_region_det (Stood _) (by kernel_rfl) (by kernel_rfl) (Stood.start _) ?_
          repeat (first
            | (refine det_skip (by rfl) ?_; simp only [Act.put, List.setIfInBounds_toArray, List.set_cons_zero, List.set_cons_succ])
            | (refine det_op (v := ?_) rfl (by rfl) (fun w' hS => ?_) ?_; rotate_left; (focus (obtain ⟨hcl, hxt⟩ := hS; go_wp2_with (fail); (first | refine ⟨?_, rfl, hcl, hxt⟩ | refine ⟨?_, rfl, Stood.of (hxt.trans (by assumption))⟩); (first | (simp only [List.getElem?_toArray, List.getElem?_cons_succ, List.getElem?_cons_zero]; rfl) | rfl))); simp only [Act.put, List.setIfInBounds_toArray, List.set_cons_zero, List.set_cons_succ]))
          refine det_end ?_
          intro w5 hS
          have hx5 := hS.2
          clear hS g1 g2
          go_wp2_with fail
          go_loopw [7, 36] (fun s i wr => ∃ j : Nat, j ≤ m1 ∧ s = .string (upsB j) ∧ i = .int .i64 (j : Int) ∧ Ext w5 wr) (fun _ i _ => m1 - (intOf i).toNat)
          case atStart => exact ⟨0, by omega, rfl, rfl, Ext.refl _⟩
          case round =>
            obtain ⟨j, hj, rfl, rfl, hE6⟩ := hrel
            have hu : (upsB j).size ≤ 100000 := by rw [upsB_size]; omega
            by_cases hjl : j < m1
            · have Hus := Lib.hid (upsB_succ j)
              generalize upsB j = uj at *
              go_wp2_with fail
              go_roundw
              case rel => exact ⟨j + 1, by omega, by rw [Hus.out], by go_num, hE6⟩
              case measure => simp [intOf]; omega
            · obtain rfl : j = m1 := by omega
              have HJ2 := Lib.hid (HJ.out _ (hx5.trans hE6))
              generalize upsB j = uj at *
              generalize joinV (B.drop k) = jo at *
              go_wp2_with fail
              refine HJ2.out.mono ?_; rintro e w7 ⟨rfl, hx7⟩
              go_wp2_with fail
              go_ret
              exact ⟨ret_val (by rw [hC2.out] <;> rfl), (hx1.trans hx2).trans ((hE.trans hx5).trans (hE6.trans hx7))⟩
      · have t2 : decide ((1 : Int) < (m2 : Int) + 1) = false := by simp; omega
        have hC2 := Lib.hid (Fin.out (hend.out (.inr (by have := Hlt2.out; omega))))
        obtain ⟨AA, hAA⟩ : ∃ AA : Addr, (if q1 = 0 then some (⟨b1, p1, none⟩ : Addr) else some ⟨b1, p1 + 1, none⟩) = some AA := by
          by_cases h : q1 = 0
          · exact ⟨_, if_pos h⟩
          · exact ⟨_, if_neg h⟩
        have hq7 : (1 : Int) ≤ (q1 : Int) + 1 := by omega
        have hq8 : (m1 : Int) ≤ (q1 : Int) := by omega
        go_wp2_with fail
        refine wp_region_det (Stood _) (by kernel_rfl) (by kernel_rfl) (Stood.start _) ?_
        repeat (first
          | (refine det_skip (by rfl) ?_; simp only [Act.put, List.setIfInBounds_toArray, List.set_cons_zero, List.set_cons_succ])
          | (refine det_op (v := ?_) rfl (by rfl) (fun w' hS => ?_) ?_; rotate_left; (focus (obtain ⟨hcl, hxt⟩ := hS; go_wp2_with (fail); (first | refine ⟨?_, rfl, hcl, hxt⟩ | refine ⟨?_, rfl, Stood.of (hxt.trans (by assumption))⟩); (first | (simp only [List.getElem?_toArray, List.getElem?_cons_succ, List.getElem?_cons_zero]; rfl) | rfl))); simp only [Act.put, List.setIfInBounds_toArray, List.set_cons_zero, List.set_cons_succ]))
        refine det_end ?_
        intro w5 hS
        have hx5 := hS.2
        clear hS g1 g2
        go_wp2_with fail
        go_loopw [7, 36] (fun s i wr => ∃ j : Nat, j ≤ m1 ∧ s = .string (upsB j) ∧ i = .int .i64 (j : Int) ∧ Ext w5 wr) (fun _ i _ => m1 - (intOf i).toNat)
        case atStart => exact ⟨0, by omega, rfl, rfl, Ext.refl _⟩
        case round =>
          obtain ⟨j, hj, rfl, rfl, hE6⟩ := hrel
          have hu : (upsB j).size ≤ 100000 := by rw [upsB_size]; omega
          by_cases hjl : j < m1
          · have Hus := Lib.hid (upsB_succ j)
            generalize upsB j = uj at *
            go_wp2_with fail
            go_roundw
            case rel => exact ⟨j + 1, by omega, by rw [Hus.out], by go_num, hE6⟩
            case measure => simp [intOf]; omega
          · obtain rfl : j = m1 := by omega
            have HJ2 := Lib.hid (HJ.out _ (hx5.trans hE6))
            generalize upsB j = uj at *
            generalize joinV (B.drop k) = jo at *
            go_wp2_with fail
            refine HJ2.out.mono ?_; rintro e w7 ⟨rfl, hx7⟩
            go_wp2_with fail
            go_ret
            exact ⟨ret_val (by rw [hC2.out] <;> rfl), (hx1.trans hx2).trans ((hE.trans hx5).trans (hE6.trans hx7))⟩
    · have t1 : decide ((1 : Int) < (m1 : Int) + 1) = false := by simp; omega
      have hC2 := Lib.hid (Fin.out (hend.out (.inl (by have := Hlt1.out; omega))))
      obtain ⟨AA, hAA⟩ : ∃ AA : Addr, (if q1 = 0 then some (⟨b1, p1, none⟩ : Addr) else some ⟨b1, p1 + 1, none⟩) = some AA := by
        by_cases h : q1 = 0
        · exact ⟨_, if_pos h⟩
        · exact ⟨_, if_neg h⟩
      have hq7 : (1 : Int) ≤ (q1 : Int) + 1 := by omega
      have hq8 : (m1 : Int) ≤ (q1 : Int) := by omega
      go_wp2_with fail
      refine wp_region_det (Stood _) (by kernel_rfl) (by kernel_rfl) (Stood.start _) ?_
      repeat (first
        | (refine det_skip (by rfl) ?_; simp only [Act.put, List.setIfInBounds_toArray, List.set_cons_zero, List.set_cons_succ])
        | (refine det_op (v := ?_) rfl (by rfl) (fun w' hS => ?_) ?_; rotate_left; (focus (obtain ⟨hcl, hxt⟩ := hS; go_wp2_with (fail); (first | refine ⟨?_, rfl, hcl, hxt⟩ | refine ⟨?_, rfl, Stood.of (hxt.trans (by assumption))⟩); (first | (simp only [List.getElem?_toArray, List.getElem?_cons_succ, List.getElem?_cons_zero]; rfl) | rfl))); simp only [Act.put, List.setIfInBounds_toArray, List.set_cons_zero, List.set_cons_succ]))
      refine det_end ?_
      intro w5 hS
      have hx5 := hS.2
      clear hS g1 g2
      go_wp2_with fail
      go_loopw [7, 36] (fun s i wr => ∃ j : Nat, j ≤ m1 ∧ s = .string (upsB j) ∧ i = .int .i64 (j : Int) ∧ Ext w5 wr) (fun _ i _ => m1 - (intOf i).toNat)
      case atStart => exact ⟨0, by omega, rfl, rfl, Ext.refl _⟩
      case round =>
        obtain ⟨j, hj, rfl, rfl, hE6⟩ := hrel
        have hu : (upsB j).size ≤ 100000 := by rw [upsB_size]; omega
        by_cases hjl : j < m1
        · exact (h1 (by omega)).elim
        · obtain rfl : j = m1 := by omega
          have HJ2 := Lib.hid (HJ.out _ (hx5.trans hE6))
          generalize upsB j = uj at *
          generalize joinV (B.drop k) = jo at *
          go_wp2_with fail
          refine HJ2.out.mono ?_; rintro e w7 ⟨rfl, hx7⟩
          go_wp2_with fail
          go_ret
          exact ⟨ret_val (by rw [hC2.out] <;> rfl), (hx1.trans hx2).trans ((hE.trans hx5).trans (hE6.trans hx7))⟩
end Go.Proofs.YtmpcnjjibfcfmaaDoor
