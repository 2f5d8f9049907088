/-
  How a link leads from a name to another: path.Away and the reference's Away, of names with parts.
-/
import Derived.Test.YtmpcnjjibfcfmaaDoorNameRight
import Derived.Lib.Repeat
namespace Go.Proofs.YtmpcnjjibfcfmaaDoor
open Go.RowKit Go.WideShapes

/-- How many parts are passed over. -/
def cn : List ByteArray → List ByteArray → Nat
  | x :: x2 :: s, y :: y2 :: t => if x.toList == y.toList then cn (x2 :: s) (y2 :: t) + 1 else 0
  | _, _ => 0
theorem cn_step {A B : List ByteArray} {k : Nat} (h1 : k + 1 < A.length) (h2 : k + 1 < B.length) (h : (A[k].toList == B[k].toList) = true) : cn (A.drop k) (B.drop k) = cn (A.drop (k + 1)) (B.drop (k + 1)) + 1 := by
  rw [List.drop_eq_getElem_cons (show k < A.length by omega), List.drop_eq_getElem_cons (show k < B.length by omega), List.drop_eq_getElem_cons h1, List.drop_eq_getElem_cons h2, cn, if_pos h]
theorem cn_part {A B : List ByteArray} {k : Nat} (h1 : k + 1 < A.length) (h2 : k + 1 < B.length) (h : (A[k].toList == B[k].toList) = false) : cn (A.drop k) (B.drop k) = 0 := by
  rw [List.drop_eq_getElem_cons (show k < A.length by omega), List.drop_eq_getElem_cons (show k < B.length by omega), List.drop_eq_getElem_cons h1, List.drop_eq_getElem_cons h2, cn, if_neg (by rw [h]; simp)]
theorem cn_short : ∀ (X Y : List ByteArray), X.length ≤ 1 ∨ Y.length ≤ 1 → cn X Y = 0
  | [], _, _ => by simp [cn]
  | [_], _, _ => by simp [cn]
  | _ :: _ :: _, [], _ => by simp [cn]
  | _ :: _ :: _, [_], _ => by simp [cn]
  | _ :: _ :: _, _ :: _ :: _, h => by simp at h
theorem cn_end {A B : List ByteArray} {k : Nat} (h : A.length ≤ k + 1 ∨ B.length ≤ k + 1) : cn (A.drop k) (B.drop k) = 0 :=
  cn_short _ _ (by rw [List.length_drop, List.length_drop]; omega)
def ups : List UInt8 := [46, 46, 47]
def upsB (n : Nat) : ByteArray := ⟨(Lib.repeatL ups n).toArray⟩
theorem upsB_succ (n : Nat) : upsB n ++ ⟨#[46, 46, 47]⟩ = upsB (n + 1) := by
  have e : ∀ n, Lib.repeatL ups n ++ ups = ups ++ Lib.repeatL ups n := by
    intro n
    induction n with
    | zero => simp [Lib.repeatL]
    | succ n ih => simp only [Lib.repeatL, List.append_assoc]; rw [ih]
  apply ByteArray.ext
  apply Array.ext'
  simp only [upsB, ByteArray.data_append, Array.toList_append]
  have := e n
  simpa [Lib.repeatL, ups] using this
theorem upsB_size (n : Nat) : (upsB n).size = n * 3 := by
  have := Lib.repeatL_length ups n
  show (Lib.repeatL ups n).toArray.size = _
  rw [List.size_toArray, this]; rfl
def awayV (A B : List ByteArray) : ByteArray := upsB (A.length - 1 - cn A B) ++ joinV (B.drop (cn A B))
theorem joinV_size {B : List ByteArray} {m : Nat} (hB : ∀ x ∈ B, x.size ≤ m) (n : Nat) : (Lib.join ((B.drop n).map (·.data.toList)) [47]).length ≤ B.length * (m + 1) := by
  have h1 := joinV_len (l := B.drop n) (n := m) (fun x hx => hB x (List.mem_of_mem_drop hx))
  have h2 : (B.drop n).length * (m + 1) ≤ B.length * (m + 1) := Nat.mul_le_mul_right _ (by rw [List.length_drop]; omega)
  omega
theorem IsStrs.dropk {w : World} {b off cap : Nat} {l : List ByteArray} (h : IsStrs w (.slice (some ⟨b, off, none⟩) l.length cap) l) {k : Nat} (hk : k < l.length) :
    IsStrs w (.slice (some ⟨b, off + k, none⟩) (l.length - k) (cap - k)) (l.drop k) := by
  rcases h with ⟨⟨_, _, e⟩, rfl⟩ | ⟨_, _, _, e, hn, hm, hc⟩
  · simp at hk
  · cases e
    refine .inr ⟨b, off + k, cap - k, by simp, by simp; omega, by omega, fun j hj => ?_⟩
    have hj' : k + j < l.length := by simp at hj; omega
    have := hc (k + j) hj'
    rw [List.getElem_drop, ← this]
    congr 2
    omega
theorem joinV_bytes (l : List ByteArray) : (joinV l).size = (Lib.join (l.map (·.data.toList)) [47]).length := by simp [joinV, ByteArray.size]

set_option maxHeartbeats 3200000 in
set_option maxRecDepth 100000 in
theorem pathAway_any (a b : ByteArray) (ha : a.size ≤ 1000) (hb : b.size ≤ 1000) (hA : 1 ≤ (partsB a).length) (hB : 1 ≤ (partsB b).length) (w : World) (hm : HasMax w) :
    Calls Tryd.prog 35 #[.string a, .string b] w fun e w' => e = .returned (.string (awayV (partsB a) (partsB b))) ∧ Ext w w' := by
  have C1 := Lib.hid (fun w hm => parts_any a (by omega) w hm)
  have C2 := Lib.hid (fun w hm => parts_any b (by omega) w hm)
  have l1 : (partsB a).length ≤ 1001 := by have := parts_le a; omega
  have l2 : (partsB b).length ≤ 1001 := by have := parts_le b; omega
  have hsz := Lib.hid (fun n => joinV_size (B := partsB b) (m := b.size) (fun x hx => part_size hx) n)
  generalize partsB a = A at *
  generalize partsB b = B at *
  have hsz2 : Hid (∀ n, (Lib.join ((B.drop n).map (·.data.toList)) [47]).length ≤ 1002001) := Lib.hid (fun n => by
    have h1 := hsz.out n
    have h2 : B.length * (b.size + 1) ≤ 1001 * 1001 := Nat.mul_le_mul l2 (by omega)
    omega)
  clear hsz
  go_enter Tryd.func35, Tryd.ntmps35
  go_wp2_with fail
  refine (C1.out _ hm).mono ?_; rintro e w1 ⟨u, rfl, h1, hx1⟩
  go_wp2_with fail
  refine (C2.out _ (hm.ext hx1)).mono ?_; rintro e w2 ⟨v, rfl, h2, hx2⟩
  have h1' := h1.ext hx2
  obtain ⟨oa, cap1, rfl, _, hc1⟩ := h1'.open
  obtain ⟨ob, cap2, rfl, _, hc2⟩ := h2.open
  obtain ⟨b1, o1, rfl, _⟩ := hc1 0 (by omega)
  obtain ⟨b2, o2, rfl, _⟩ := hc2 0 (by omega)
  have hcap2 : B.length ≤ cap2 := by
    rcases h2 with ⟨⟨_, _, e⟩, hn⟩ | ⟨_, _, _, e, h, _⟩
    · rw [hn] at hB; simp at hB
    · cases e; exact h
  have hcap3 : cap2 ≤ 9223372036854775807 := by
    rcases h2 with ⟨⟨_, _, e⟩, hn⟩ | ⟨_, _, _, e, _, h, _⟩
    · rw [hn] at hB; simp at hB
    · cases e; unfold maxLen at h; omega
  have Hc1 := Lib.hid hc1
  have Hc2 := Lib.hid hc2
  have H2 := Lib.hid h2
  clear h1 h1' h2 hc1 hc2 C1 C2
  have hA0 : ((A.length : Int) == 0) = false := by rw [beq_eq_false_iff_ne]; omega
  have hB0 : ((B.length : Int) == 0) = false := by rw [beq_eq_false_iff_ne]; omega
  go_wp2_with fail
  go_loopw [7] (fun i wr => ∃ k : Nat, k + 1 ≤ A.length ∧ k + 1 ≤ B.length ∧ i = .int .i64 (k : Int) ∧ cn A B = k + cn (A.drop k) (B.drop k) ∧ Ext w2 wr) (fun i _ => A.length - (intOf i).toNat)
  case atStart => exact ⟨0, by omega, by omega, rfl, by simp, Ext.refl _⟩
  case round =>
    obtain ⟨k, hkA, hkB, rfl, hC, hE⟩ := hrel
    have HC := Lib.hid hC
    clear hC
    obtain ⟨_, _, e1, g1'⟩ := Hc1.out k (by omega)
    cases e1
    obtain ⟨_, _, e1, g2'⟩ := Hc2.out k (by omega)
    cases e1
    have g1 := hE.cell g1'
    have g2 := hE.cell g2'
    clear g1' g2'
    have lb1 : b1 < wr.heap.size := World.block_lt_of_cell? wr _ g1
    have lb2 : b2 < wr.heap.size := World.block_lt_of_cell? wr _ g2
    have fin : cn (A.drop k) (B.drop k) = 0 → Hid (awayV A B = upsB (A.length - 1 - k) ++ joinV (B.drop k)) := fun h => Lib.hid (by unfold awayV; rw [HC.out, h]; rfl)
    have Fin := Lib.hid fin
    have hstep := Lib.hid (fun h1 h2 h => cn_step (A := A) (B := B) (k := k) h1 h2 h)
    have hpart := Lib.hid (fun h1 h2 h => cn_part (A := A) (B := B) (k := k) h1 h2 h)
    have hend := Lib.hid (fun h => cn_end (A := A) (B := B) (k := k) h)
    clear fin
    have HJ := Lib.hid (fun w' (hx : Ext wr w') => join_any w' _ _ ((H2.out.ext (hE.trans hx)).dropk (show k < B.length by omega)) (by have := hsz2.out k; omega) (by rw [List.length_drop]; omega))
    have HR := Lib.hid (fun w' => Tryd.strings_Repeat ⟨#[46, 46, 47]⟩ (A.length - 1 - k) w' (by omega) (by show 3 * _ ≤ _; omega))
    by_cases hlt1 : k + 1 < A.length
    · have t1 : (k : Int) < (A.length : Int) - 1 := by omega
      by_cases hlt2 : k + 1 < B.length
      · have t2 : (k : Int) < (B.length : Int) - 1 := by omega
        have Hs2 := Lib.hid (hstep.out hlt1 hlt2)
        have Hp2 := Lib.hid (hpart.out hlt1 hlt2)
        generalize A[k] = x at *
        generalize B[k] = y at *
        cases hq : (x.toList == y.toList) with
        | true =>
          have hC2 := Lib.hid (Hs2.out hq)
          go_wp2_with fail
          refine wp_region_det (Stood _) (by kernel_rfl) (by kernel_rfl) (Stood.start _) ?_
          repeat (first
            | (refine det_skip (by rfl) ?_; simp only [Act.put, List.setIfInBounds_toArray, List.set_cons_zero, List.set_cons_succ])
            | (refine det_op (v := ?_) rfl (by rfl) (fun w' hS => ?_) ?_; rotate_left; (focus (obtain ⟨hcl, hxt⟩ := hS; go_wp2_with (fail); (first | refine ⟨?_, rfl, hcl, hxt⟩ | refine ⟨?_, rfl, Stood.of (hxt.trans (by assumption))⟩); (first | (simp only [List.getElem?_toArray, List.getElem?_cons_succ, List.getElem?_cons_zero]; rfl) | rfl))); simp only [Act.put, List.setIfInBounds_toArray, List.set_cons_zero, List.set_cons_succ]))
          refine det_end ?_
          intro w5 hS
          have hx5 := hS.2
          clear hS
          go_wp2_with fail
          go_roundw
          case rel => exact ⟨k + 1, by omega, by omega, by go_num, by rw [HC.out, hC2.out]; omega, hE.trans hx5⟩
          case measure => simp [intOf]; omega
        | false =>
          have hC2 := Lib.hid (Fin.out (Hp2.out hq)).out
          go_wp2_with fail
          refine wp_region_det (Stood _) (by kernel_rfl) (by kernel_rfl) (Stood.start _) ?_
          repeat (first
            | (refine det_skip (by rfl) ?_; simp only [Act.put, List.setIfInBounds_toArray, List.set_cons_zero, List.set_cons_succ])
            | (refine det_op (v := ?_) rfl (by rfl) (fun w' hS => ?_) ?_; rotate_left; (focus (obtain ⟨hcl, hxt⟩ := hS; go_wp2_with (fail); (first | refine ⟨?_, rfl, hcl, hxt⟩ | refine ⟨?_, rfl, Stood.of (hxt.trans (by assumption))⟩); (first | (simp only [List.getElem?_toArray, List.getElem?_cons_succ, List.getElem?_cons_zero]; rfl) | rfl))); simp only [Act.put, List.setIfInBounds_toArray, List.set_cons_zero, List.set_cons_succ]))
          refine det_end ?_
          intro w5 hS
          have hx5 := hS.2
          clear hS
          go_wp2_with fail
          have hk1 : (k : Int) ≤ (B.length : Int) := by omega
          have hk2 : ¬ cap2 = k := by omega
          have hk4 : (B.length : Int) ≤ (cap2 : Int) := by omega
          have hk3 : (A.length : Int) - 1 - (k : Int) = ((A.length - 1 - k : Nat) : Int) := by omega
          have HR' : ∀ w', Calls Tryd.prog 53 #[.string ⟨#[46, 46, 47]⟩, .int .i64 ((A.length : Int) - 1 - (k : Int))] w' fun e w'' => e = .returned (.string (upsB (A.length - 1 - k))) ∧ Ext w' w'' := fun w' => by rw [hk3]; exact HR.out w'
          have HR'' := Lib.hid HR'
          have hu1 : (upsB (A.length - 1 - k)).size ≤ 100000 := by rw [upsB_size]; omega
          have hu2 : (joinV (B.drop k)).size ≤ 2000000 := by have := hsz2.out k; rw [joinV_bytes]; omega
          clear HR' hk3
          generalize upsB (A.length - 1 - k) = up at *
          generalize joinV (B.drop k) = jo at *
          refine wp_region_det (Stood _) (by kernel_rfl) (by kernel_rfl) (Stood.start _) ?_
          repeat (first
            | (refine det_skip (by rfl) ?_; simp only [Act.put, List.setIfInBounds_toArray, List.set_cons_zero, List.set_cons_succ])
            | (refine det_op (v := ?_) rfl (by rfl) (fun w' hS => ?_) ?_; rotate_left; (focus (obtain ⟨hcl, hxt⟩ := hS; go_wp2_with (first | ((with_reducible refine (HR''.out _).mono ?_); rintro e w1 ⟨rfl, hx1⟩) | ((with_reducible refine (HJ.out _ (hx5.trans hxt)).mono ?_); rintro e w1 ⟨rfl, hx1⟩)); (first | refine ⟨?_, rfl, hcl, hxt⟩ | refine ⟨?_, rfl, Stood.of (hxt.trans (by assumption))⟩); (first | (simp only [List.getElem?_toArray, List.getElem?_cons_succ, List.getElem?_cons_zero]; rfl) | rfl))); simp only [Act.put, List.setIfInBounds_toArray, List.set_cons_zero, List.set_cons_succ]))
          refine det_end ?_
          intro w6 hS
          have hx6 := hS.2
          clear hS
          go_wp2_with fail
          go_ret
          exact ⟨ret_val (by rw [hC2.out] <;> rfl), (hx1.trans hx2).trans ((hE.trans hx5).trans hx6)⟩
      · have t2 : decide ((k : Int) < (B.length : Int) - 1) = false := by simp; omega
        have hC2 := Lib.hid (Fin.out (hend.out (.inr (by omega)))).out
        go_wp2_with fail
        refine wp_region_det (Stood _) (by kernel_rfl) (by kernel_rfl) (Stood.start _) ?_
        repeat (first
          | (refine det_skip (by rfl) ?_; simp only [Act.put, List.setIfInBounds_toArray, List.set_cons_zero, List.set_cons_succ])
          | (refine det_op (v := ?_) rfl (by rfl) (fun w' hS => ?_) ?_; rotate_left; (focus (obtain ⟨hcl, hxt⟩ := hS; go_wp2_with (fail); (first | refine ⟨?_, rfl, hcl, hxt⟩ | refine ⟨?_, rfl, Stood.of (hxt.trans (by assumption))⟩); (first | (simp only [List.getElem?_toArray, List.getElem?_cons_succ, List.getElem?_cons_zero]; rfl) | rfl))); simp only [Act.put, List.setIfInBounds_toArray, List.set_cons_zero, List.set_cons_succ]))
        refine det_end ?_
        intro w5 hS
        have hx5 := hS.2
        clear hS
        go_wp2_with fail
        have hk1 : (k : Int) ≤ (B.length : Int) := by omega
        have hk2 : ¬ cap2 = k := by omega
        have hk4 : (B.length : Int) ≤ (cap2 : Int) := by omega
        have hk3 : (A.length : Int) - 1 - (k : Int) = ((A.length - 1 - k : Nat) : Int) := by omega
        have HR' : ∀ w', Calls Tryd.prog 53 #[.string ⟨#[46, 46, 47]⟩, .int .i64 ((A.length : Int) - 1 - (k : Int))] w' fun e w'' => e = .returned (.string (upsB (A.length - 1 - k))) ∧ Ext w' w'' := fun w' => by rw [hk3]; exact HR.out w'
        have HR'' := Lib.hid HR'
        have hu1 : (upsB (A.length - 1 - k)).size ≤ 100000 := by rw [upsB_size]; omega
        have hu2 : (joinV (B.drop k)).size ≤ 2000000 := by have := hsz2.out k; rw [joinV_bytes]; omega
        clear HR' hk3
        generalize upsB (A.length - 1 - k) = up at *
        generalize joinV (B.drop k) = jo at *
        refine wp_region_det (Stood _) (by kernel_rfl) (by kernel_rfl) (Stood.start _) ?_
        repeat (first
          | (refine det_skip (by rfl) ?_; simp only [Act.put, List.setIfInBounds_toArray, List.set_cons_zero, List.set_cons_succ])
          | (refine det_op (v := ?_) rfl (by rfl) (fun w' hS => ?_) ?_; rotate_left; (focus (obtain ⟨hcl, hxt⟩ := hS; go_wp2_with (first | ((with_reducible refine (HR''.out _).mono ?_); rintro e w1 ⟨rfl, hx1⟩) | ((with_reducible refine (HJ.out _ (hx5.trans hxt)).mono ?_); rintro e w1 ⟨rfl, hx1⟩)); (first | refine ⟨?_, rfl, hcl, hxt⟩ | refine ⟨?_, rfl, Stood.of (hxt.trans (by assumption))⟩); (first | (simp only [List.getElem?_toArray, List.getElem?_cons_succ, List.getElem?_cons_zero]; rfl) | rfl))); simp only [Act.put, List.setIfInBounds_toArray, List.set_cons_zero, List.set_cons_succ]))
        refine det_end ?_
        intro w6 hS
        have hx6 := hS.2
        clear hS
        go_wp2_with fail
        go_ret
        exact ⟨ret_val (by rw [hC2.out] <;> rfl), (hx1.trans hx2).trans ((hE.trans hx5).trans hx6)⟩
    · have t1 : decide ((k : Int) < (A.length : Int) - 1) = false := by simp; omega
      have hC2 := Lib.hid (Fin.out (hend.out (.inl (by omega)))).out
      go_wp2_with fail
      refine wp_region_det (Stood _) (by kernel_rfl) (by kernel_rfl) (Stood.start _) ?_
      repeat (first
        | (refine det_skip (by rfl) ?_; simp only [Act.put, List.setIfInBounds_toArray, List.set_cons_zero, List.set_cons_succ])
        | (refine det_op (v := ?_) rfl (by rfl) (fun w' hS => ?_) ?_; rotate_left; (focus (obtain ⟨hcl, hxt⟩ := hS; go_wp2_with (fail); (first | refine ⟨?_, rfl, hcl, hxt⟩ | refine ⟨?_, rfl, Stood.of (hxt.trans (by assumption))⟩); (first | (simp only [List.getElem?_toArray, List.getElem?_cons_succ, List.getElem?_cons_zero]; rfl) | rfl))); simp only [Act.put, List.setIfInBounds_toArray, List.set_cons_zero, List.set_cons_succ]))
      refine det_end ?_
      intro w5 hS
      have hx5 := hS.2
      clear hS
      go_wp2_with fail
      have hk1 : (k : Int) ≤ (B.length : Int) := by omega
      have hk2 : ¬ cap2 = k := by omega
      have hk4 : (B.length : Int) ≤ (cap2 : Int) := by omega
      have hk3 : (A.length : Int) - 1 - (k : Int) = ((A.length - 1 - k : Nat) : Int) := by omega
      have HR' : ∀ w', Calls Tryd.prog 53 #[.string ⟨#[46, 46, 47]⟩, .int .i64 ((A.length : Int) - 1 - (k : Int))] w' fun e w'' => e = .returned (.string (upsB (A.length - 1 - k))) ∧ Ext w' w'' := fun w' => by rw [hk3]; exact HR.out w'
      have HR'' := Lib.hid HR'
      have hu1 : (upsB (A.length - 1 - k)).size ≤ 100000 := by rw [upsB_size]; omega
      have hu2 : (joinV (B.drop k)).size ≤ 2000000 := by have := hsz2.out k; rw [joinV_bytes]; omega
      clear HR' hk3
      generalize upsB (A.length - 1 - k) = up at *
      generalize joinV (B.drop k) = jo at *
      refine wp_region_det (Stood _) (by kernel_rfl) (by kernel_rfl) (Stood.start _) ?_
      repeat (first
        | (refine det_skip (by rfl) ?_; simp only [Act.put, List.setIfInBounds_toArray, List.set_cons_zero, List.set_cons_succ])
        | (refine det_op (v := ?_) rfl (by rfl) (fun w' hS => ?_) ?_; rotate_left; (focus (obtain ⟨hcl, hxt⟩ := hS; go_wp2_with (first | ((with_reducible refine (HR''.out _).mono ?_); rintro e w1 ⟨rfl, hx1⟩) | ((with_reducible refine (HJ.out _ (hx5.trans hxt)).mono ?_); rintro e w1 ⟨rfl, hx1⟩)); (first | refine ⟨?_, rfl, hcl, hxt⟩ | refine ⟨?_, rfl, Stood.of (hxt.trans (by assumption))⟩); (first | (simp only [List.getElem?_toArray, List.getElem?_cons_succ, List.getElem?_cons_zero]; rfl) | rfl))); simp only [Act.put, List.setIfInBounds_toArray, List.set_cons_zero, List.set_cons_succ]))
      refine det_end ?_
      intro w6 hS
      have hx6 := hS.2
      clear hS
      go_wp2_with fail
      go_ret
      exact ⟨ret_val (by rw [hC2.out] <;> rfl), (hx1.trans hx2).trans ((hE.trans hx5).trans hx6)⟩
end Go.Proofs.YtmpcnjjibfcfmaaDoor
