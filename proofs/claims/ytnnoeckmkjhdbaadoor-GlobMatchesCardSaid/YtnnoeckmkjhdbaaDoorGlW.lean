/-
  The reader of patterns: its letters. No conditions but bounds.
-/
import Derived.Test.YtnnoeckmkjhdbaaDoorGlV
import Derived.Test.YtnnoeckmkjhdbaaDoorDet
import Derived.Test.YtnnoeckmkjhdbaaDoorTurn
namespace Go.Proofs.YtnnoeckmkjhdbaaDoor
open Go.RowKit Go.PlainAid

/-- Block rb is a reader of s at place a. -/
def RdAt (w : World) (rb : Nat) (s : ByteArray) (a : Nat) : Prop := w.heap[rb]? = some (.cells #[.string s, .int .i64 (a : Int)] 49 (0, 0))
theorem RdAt.c0 {w : World} {rb : Nat} {s : ByteArray} {a : Nat} (h : RdAt w rb s a) : w.cell? ⟨rb, 0, none⟩ = some (.string s) := by
  unfold RdAt at h
  simp [World.cell?, h]
theorem RdAt.c1 {w : World} {rb : Nat} {s : ByteArray} {a : Nat} (h : RdAt w rb s a) : w.cell? ⟨rb, 1, none⟩ = some (.int .i64 (a : Int)) := by
  unfold RdAt at h
  simp [World.cell?, h]
theorem RdAt.f1 {w : World} {rb : Nat} {s : ByteArray} {a : Nat} (h : RdAt w rb s a) (o : Nat) : w.frozen? ⟨rb, o, none⟩ = false := by
  unfold RdAt at h
  simp [World.frozen?, h]
theorem RdAt.lt {w : World} {rb : Nat} {s : ByteArray} {a : Nat} (h : RdAt w rb s a) : rb < w.heap.size := (Array.getElem?_eq_some_iff.1 h).1
theorem RdAt.put {w : World} {rb : Nat} {s : ByteArray} {a : Nat} (h : RdAt w rb s a) (b : Nat) {v : Value} (hv : v = .int .i64 (b : Int)) : RdAt (w.setCell ⟨rb, 1, none⟩ v) rb s b := by
  subst hv
  unfold RdAt at h ⊢
  have hlt := (Array.getElem?_eq_some_iff.1 h).1
  have h' := (Array.getElem?_eq_some_iff.1 h).2
  show (w.heap.modify rb _)[rb]? = _
  rw [Array.getElem?_eq_getElem (by simpa using hlt), Array.getElem_modify_self, h']
  rfl
theorem RdAt.ext {w w' : World} {rb : Nat} {s : ByteArray} {a : Nat} (h : RdAt w rb s a) (e : Ext w w') : RdAt w' rb s a := (e.block rb h.lt).trans h
theorem RdAt.turn {w w' : World} {D : Nat → Prop} {rb : Nat} {s : ByteArray} {a : Nat} (h : RdAt w rb s a) (e : Turn D w w') (hn : ¬ D rb) : RdAt w' rb s a := e.heap h hn
/-- What 'one' leaves. -/
def OneR (s : ByteArray) (rb a : Nat) (w : World) (x : Ending) (w' : World) : Prop := ∃ (a' : Nat) (c : Int) (ok : Bool), x = .returned (.tuple #[.int .u8 c, .bool ok]) ∧ RdAt w' rb s a' ∧ a' ≤ s.size ∧ Turn (· = rb) w w' ∧
  ((letV (suf s a) = none ∧ ok = false ∧ c = 0) ∨ (letV (suf s a) = some (c, suf s a') ∧ ok = true ∧ a < a'))
set_option maxHeartbeats 1600000 in
set_option maxRecDepth 100000 in
theorem glOne_any (s : ByteArray) (hs : s.size ≤ 100000) (rb a : Nat) (w : World) (h : RdAt w rb s a) (ha : a ≤ s.size) : Calls Tryd.prog 19 #[.pointer (some ⟨rb, 0, none⟩)] w (OneR s rb a w) := by
  have H0 := Lib.hid h
  have T0 : Turn (· = rb) w w := Turn.refl _
  have c0 := h.c0
  have c1 := h.c1
  have f1 := h.f1 1
  have hl := h.lt
  have gb := get_bt s
  clear h
  have hz := suf_size s a
  by_cases h0 : a < s.size
  · have q1 : decide ((a : Int) < (s.size : Int)) = true := decide_eq_true (by omega)
    have i1 : (a : Int) < (s.size : Int) := by omega
    have e0 : bt (suf s a) 0 = bt s a := suf_bt (by omega)
    obtain ⟨b, hb⟩ : ∃ b, b = a + 1 := ⟨_, rfl⟩
    by_cases h1 : bt s a = 92
    · have q2 : (bt s a == 92) = true := by rw [h1]; rfl
      by_cases h2 : b < s.size
      · have e1 : bt (suf s a) 1 = bt s (a + 1) := suf_bt (by omega)
        obtain ⟨c, hc⟩ : ∃ c, c = b + 1 := ⟨_, rfl⟩
        have hv : Hid (letV (suf s a) = some (bt s b, suf s (a + 2))) := Lib.hid (by
          unfold letV
          rw [if_neg (by omega), if_pos (by rw [e0, h1]), e1, suf_suf, hb])
        have q3 : decide ((s.size : Int) ≤ (b : Int)) = false := decide_eq_false (by omega)
        have i2 : (b : Int) < (s.size : Int) := by omega
        have q4 : (c : Int) - 1 = (b : Int) := by omega
        have k1 : c ≤ s.size ∧ a < c := by omega
        have HB := Lib.hid hb
        have HC := Lib.hid hc
        have b1 : ((a : Int) + 1) = (b : Int) := by omega
        have B1 := Lib.hid b1
        have b2 : ((b : Int) + 1) = (c : Int) := by omega
        have B2 := Lib.hid b2
        clear h1 e0 e1 hz hb hc b1 b2
        go_enter Tryd.func19, Tryd.ntmps19
        go_wp2_with fail
        refine wp_region_det (Stood _) (by kernel_rfl) (by kernel_rfl) (Stood.start _) ?_
        repeat (first
          | (refine det_skip (by rfl) ?_; simp only [Act.put, List.setIfInBounds_toArray, List.set_cons_zero, List.set_cons_succ, q1, q2])
          | (refine det_op (v := ?_) rfl (by rfl) (fun w' hS => ?_) ?_; rotate_left; (focus (obtain ⟨hcl, hxt⟩ := hS; go_wp2_with (fail); (first | refine ⟨?_, rfl, hcl, hxt⟩ | refine ⟨?_, rfl, Stood.of (hxt.trans (by assumption))⟩); (first | (simp only [List.getElem?_toArray, List.getElem?_cons_succ, List.getElem?_cons_zero]; rfl) | rfl))); simp only [Act.put, List.setIfInBounds_toArray, List.set_cons_zero, List.set_cons_succ, q1, q2]))
        refine det_end ?_
        intro w1 hS
        have hx1 := hS.2
        clear hS c0 c1 f1 hl
        have H1 := Lib.hid (H0.out.ext hx1)
        have T1 := T0.thenExt hx1
        clear hx1
        have c0 := H1.out.c0
        have c1 := H1.out.c1
        have f1 := H1.out.f1 1
        have hl := H1.out.lt
        go_wp2_with fail
        have H2 := Lib.hid (H1.out.put b (v := (.int .i64 ((a : Int) + 1))) (by rw [B1.out]))
        have T2 : Turn (· = rb) w (w1.setCell ⟨rb, 1, none⟩ (.int .i64 ((a : Int) + 1))) := T1.setCell (.inl rfl) _
        clear c0 c1 f1 hl
        generalize w1.setCell ⟨rb, 1, none⟩ (.int .i64 ((a : Int) + 1)) = w2 at *
        have c0 := H2.out.c0
        have c1 := H2.out.c1
        have f1 := H2.out.f1 1
        have hl := H2.out.lt
        refine wp_region_det (Stood _) (by kernel_rfl) (by kernel_rfl) (Stood.start _) ?_
        repeat (first
          | (refine det_skip (by rfl) ?_; simp only [Act.put, List.setIfInBounds_toArray, List.set_cons_zero, List.set_cons_succ, q3])
          | (refine det_op (v := ?_) rfl (by rfl) (fun w' hS => ?_) ?_; rotate_left; (focus (obtain ⟨hcl, hxt⟩ := hS; go_wp2_with (fail); (first | refine ⟨?_, rfl, hcl, hxt⟩ | refine ⟨?_, rfl, Stood.of (hxt.trans (by assumption))⟩); (first | (simp only [List.getElem?_toArray, List.getElem?_cons_succ, List.getElem?_cons_zero]; rfl) | rfl))); simp only [Act.put, List.setIfInBounds_toArray, List.set_cons_zero, List.set_cons_succ, q3]))
        refine det_end ?_
        intro w3 hS
        have hx3 := hS.2
        clear hS c0 c1 f1 hl
        have H3 := Lib.hid (H2.out.ext hx3)
        have T3 := T2.thenExt hx3
        clear hx3
        have c0 := H3.out.c0
        have c1 := H3.out.c1
        have f1 := H3.out.f1 1
        have hl := H3.out.lt
        go_wp2_with fail
        have H4 := Lib.hid (H3.out.put c (v := (.int .i64 ((b : Int) + 1))) (by rw [B2.out]))
        have T4 : Turn (· = rb) w (w3.setCell ⟨rb, 1, none⟩ (.int .i64 ((b : Int) + 1))) := T3.setCell (.inl rfl) _
        clear c0 c1 f1 hl
        generalize w3.setCell ⟨rb, 1, none⟩ (.int .i64 ((b : Int) + 1)) = w4 at *
        have c0 := H4.out.c0
        have c1 := H4.out.c1
        have f1 := H4.out.f1 1
        have hl := H4.out.lt
        refine wp_region_det (Stood _) (by kernel_rfl) (by kernel_rfl) (Stood.start _) ?_
        repeat (first
          | (refine det_skip (by rfl) ?_; simp only [Act.put, List.setIfInBounds_toArray, List.set_cons_zero, List.set_cons_succ, q4])
          | (refine det_op (v := ?_) rfl (by rfl) (fun w' hS => ?_) ?_; rotate_left; (focus (obtain ⟨hcl, hxt⟩ := hS; go_wp2_with (fail); (first | refine ⟨?_, rfl, hcl, hxt⟩ | refine ⟨?_, rfl, Stood.of (hxt.trans (by assumption))⟩); (first | (simp only [List.getElem?_toArray, List.getElem?_cons_succ, List.getElem?_cons_zero]; rfl) | rfl))); simp only [Act.put, List.setIfInBounds_toArray, List.set_cons_zero, List.set_cons_succ, q4]))
        refine det_end ?_
        intro w5 hS
        have hx5 := hS.2
        clear hS c0 c1 f1 hl
        have H5 := Lib.hid (H4.out.ext hx5)
        have T5 := T4.thenExt hx5
        clear hx5
        have c0 := H5.out.c0
        have c1 := H5.out.c1
        have f1 := H5.out.f1 1
        have hl := H5.out.lt
        go_wp2_with fail
        go_ret2
        exact ⟨c, bt s b, true, rfl, H5.out, k1.1, T5, .inr ⟨by rw [hv.out, HC.out, HB.out], rfl, k1.2⟩⟩
      · have hv : Hid (letV (suf s a) = none) := Lib.hid (if_pos (.inr ⟨by omega, by rw [e0, h1]⟩))
        have q3 : decide ((s.size : Int) ≤ (b : Int)) = true := decide_eq_true (by omega)
        have k1 : b ≤ s.size := by omega
        have B1 : Hid (((a : Int) + 1) = (b : Int)) := Lib.hid (by omega)
        clear h1 e0 hz hb
        go_enter Tryd.func19, Tryd.ntmps19
        go_wp2_with fail
        refine wp_region_det (Stood _) (by kernel_rfl) (by kernel_rfl) (Stood.start _) ?_
        repeat (first
          | (refine det_skip (by rfl) ?_; simp only [Act.put, List.setIfInBounds_toArray, List.set_cons_zero, List.set_cons_succ, q1, q2])
          | (refine det_op (v := ?_) rfl (by rfl) (fun w' hS => ?_) ?_; rotate_left; (focus (obtain ⟨hcl, hxt⟩ := hS; go_wp2_with (fail); (first | refine ⟨?_, rfl, hcl, hxt⟩ | refine ⟨?_, rfl, Stood.of (hxt.trans (by assumption))⟩); (first | (simp only [List.getElem?_toArray, List.getElem?_cons_succ, List.getElem?_cons_zero]; rfl) | rfl))); simp only [Act.put, List.setIfInBounds_toArray, List.set_cons_zero, List.set_cons_succ, q1, q2]))
        refine det_end ?_
        intro w1 hS
        have hx1 := hS.2
        clear hS c0 c1 f1 hl
        have H1 := Lib.hid (H0.out.ext hx1)
        have T1 := T0.thenExt hx1
        clear hx1
        have c0 := H1.out.c0
        have c1 := H1.out.c1
        have f1 := H1.out.f1 1
        have hl := H1.out.lt
        go_wp2_with fail
        have H2 := Lib.hid (H1.out.put b (v := (.int .i64 ((a : Int) + 1))) (by rw [B1.out]))
        have T2 : Turn (· = rb) w (w1.setCell ⟨rb, 1, none⟩ (.int .i64 ((a : Int) + 1))) := T1.setCell (.inl rfl) _
        clear c0 c1 f1 hl
        generalize w1.setCell ⟨rb, 1, none⟩ (.int .i64 ((a : Int) + 1)) = w2 at *
        have c0 := H2.out.c0
        have c1 := H2.out.c1
        have f1 := H2.out.f1 1
        have hl := H2.out.lt
        refine wp_region_det (Stood _) (by kernel_rfl) (by kernel_rfl) (Stood.start _) ?_
        repeat (first
          | (refine det_skip (by rfl) ?_; simp only [Act.put, List.setIfInBounds_toArray, List.set_cons_zero, List.set_cons_succ, q3])
          | (refine det_op (v := ?_) rfl (by rfl) (fun w' hS => ?_) ?_; rotate_left; (focus (obtain ⟨hcl, hxt⟩ := hS; go_wp2_with (fail); (first | refine ⟨?_, rfl, hcl, hxt⟩ | refine ⟨?_, rfl, Stood.of (hxt.trans (by assumption))⟩); (first | (simp only [List.getElem?_toArray, List.getElem?_cons_succ, List.getElem?_cons_zero]; rfl) | rfl))); simp only [Act.put, List.setIfInBounds_toArray, List.set_cons_zero, List.set_cons_succ, q3]))
        refine det_end ?_
        intro w3 hS
        have hx3 := hS.2
        clear hS c0 c1 f1 hl
        have H3 := Lib.hid (H2.out.ext hx3)
        have T3 := T2.thenExt hx3
        clear hx3
        have c0 := H3.out.c0
        have c1 := H3.out.c1
        have f1 := H3.out.f1 1
        have hl := H3.out.lt
        go_wp2_with fail
        go_ret2
        exact ⟨b, 0, false, rfl, H3.out, k1, T3, .inl ⟨hv.out, rfl, rfl⟩⟩
    · have q2 : (bt s a == 92) = false := by simpa using h1
      have hv : Hid (letV (suf s a) = some (bt s a, suf s (a + 1))) := Lib.hid (by
        unfold letV
        rw [if_neg (by rw [e0]; omega), if_neg (by rw [e0]; exact h1), e0, suf_suf])
      have q3 : decide ((s.size : Int) ≤ (a : Int)) = false := decide_eq_false (by omega)
      have q4 : (b : Int) - 1 = (a : Int) := by omega
      have k1 : b ≤ s.size ∧ a < b := by omega
      have HB := Lib.hid hb
      have B1 : Hid (((a : Int) + 1) = (b : Int)) := Lib.hid (by omega)
      clear h1 e0 hz hb
      go_enter Tryd.func19, Tryd.ntmps19
      go_wp2_with fail
      refine wp_region_det (Stood _) (by kernel_rfl) (by kernel_rfl) (Stood.start _) ?_
      repeat (first
        | (refine det_skip (by rfl) ?_; simp only [Act.put, List.setIfInBounds_toArray, List.set_cons_zero, List.set_cons_succ, q1, q2])
        | (refine det_op (v := ?_) rfl (by rfl) (fun w' hS => ?_) ?_; rotate_left; (focus (obtain ⟨hcl, hxt⟩ := hS; go_wp2_with (fail); (first | refine ⟨?_, rfl, hcl, hxt⟩ | refine ⟨?_, rfl, Stood.of (hxt.trans (by assumption))⟩); (first | (simp only [List.getElem?_toArray, List.getElem?_cons_succ, List.getElem?_cons_zero]; rfl) | rfl))); simp only [Act.put, List.setIfInBounds_toArray, List.set_cons_zero, List.set_cons_succ, q1, q2]))
      refine det_end ?_
      intro w1 hS
      have hx1 := hS.2
      clear hS c0 c1 f1 hl
      have H1 := Lib.hid (H0.out.ext hx1)
      have T1 := T0.thenExt hx1
      clear hx1
      have c0 := H1.out.c0
      have c1 := H1.out.c1
      have f1 := H1.out.f1 1
      have hl := H1.out.lt
      go_wp2_with fail
      refine wp_region_det (Stood _) (by kernel_rfl) (by kernel_rfl) (Stood.start _) ?_
      repeat (first
        | (refine det_skip (by rfl) ?_; simp only [Act.put, List.setIfInBounds_toArray, List.set_cons_zero, List.set_cons_succ, q3])
        | (refine det_op (v := ?_) rfl (by rfl) (fun w' hS => ?_) ?_; rotate_left; (focus (obtain ⟨hcl, hxt⟩ := hS; go_wp2_with (fail); (first | refine ⟨?_, rfl, hcl, hxt⟩ | refine ⟨?_, rfl, Stood.of (hxt.trans (by assumption))⟩); (first | (simp only [List.getElem?_toArray, List.getElem?_cons_succ, List.getElem?_cons_zero]; rfl) | rfl))); simp only [Act.put, List.setIfInBounds_toArray, List.set_cons_zero, List.set_cons_succ, q3]))
      refine det_end ?_
      intro w2 hS
      have hx2 := hS.2
      clear hS c0 c1 f1 hl
      have H2 := Lib.hid (H1.out.ext hx2)
      have T2 := T1.thenExt hx2
      clear hx2
      have c0 := H2.out.c0
      have c1 := H2.out.c1
      have f1 := H2.out.f1 1
      have hl := H2.out.lt
      go_wp2_with fail
      have H3 := Lib.hid (H2.out.put b (v := (.int .i64 ((a : Int) + 1))) (by rw [B1.out]))
      have T3 : Turn (· = rb) w (w2.setCell ⟨rb, 1, none⟩ (.int .i64 ((a : Int) + 1))) := T2.setCell (.inl rfl) _
      clear c0 c1 f1 hl
      generalize w2.setCell ⟨rb, 1, none⟩ (.int .i64 ((a : Int) + 1)) = w3 at *
      have c0 := H3.out.c0
      have c1 := H3.out.c1
      have f1 := H3.out.f1 1
      have hl := H3.out.lt
      refine wp_region_det (Stood _) (by kernel_rfl) (by kernel_rfl) (Stood.start _) ?_
      repeat (first
        | (refine det_skip (by rfl) ?_; simp only [Act.put, List.setIfInBounds_toArray, List.set_cons_zero, List.set_cons_succ, q4])
        | (refine det_op (v := ?_) rfl (by rfl) (fun w' hS => ?_) ?_; rotate_left; (focus (obtain ⟨hcl, hxt⟩ := hS; go_wp2_with (fail); (first | refine ⟨?_, rfl, hcl, hxt⟩ | refine ⟨?_, rfl, Stood.of (hxt.trans (by assumption))⟩); (first | (simp only [List.getElem?_toArray, List.getElem?_cons_succ, List.getElem?_cons_zero]; rfl) | rfl))); simp only [Act.put, List.setIfInBounds_toArray, List.set_cons_zero, List.set_cons_succ, q4]))
      refine det_end ?_
      intro w4 hS
      have hx4 := hS.2
      clear hS c0 c1 f1 hl
      have H4 := Lib.hid (H3.out.ext hx4)
      have T4 := T3.thenExt hx4
      clear hx4
      have c0 := H4.out.c0
      have c1 := H4.out.c1
      have f1 := H4.out.f1 1
      have hl := H4.out.lt
      go_wp2_with fail
      go_ret2
      exact ⟨b, bt s a, true, rfl, H4.out, k1.1, T4, .inr ⟨by rw [hv.out, HB.out], rfl, k1.2⟩⟩
  · have q1 : decide ((a : Int) < (s.size : Int)) = false := decide_eq_false (by omega)
    have hv : Hid (letV (suf s a) = none) := Lib.hid (if_pos (.inl (by omega)))
    have q3 : decide ((s.size : Int) ≤ (a : Int)) = true := decide_eq_true (by omega)
    clear hz
    go_enter Tryd.func19, Tryd.ntmps19
    go_wp2_with fail
    refine wp_region_det (Stood _) (by kernel_rfl) (by kernel_rfl) (Stood.start _) ?_
    repeat (first
      | (refine det_skip (by rfl) ?_; simp only [Act.put, List.setIfInBounds_toArray, List.set_cons_zero, List.set_cons_succ, q1])
      | (refine det_op (v := ?_) rfl (by rfl) (fun w' hS => ?_) ?_; rotate_left; (focus (obtain ⟨hcl, hxt⟩ := hS; go_wp2_with (fail); (first | refine ⟨?_, rfl, hcl, hxt⟩ | refine ⟨?_, rfl, Stood.of (hxt.trans (by assumption))⟩); (first | (simp only [List.getElem?_toArray, List.getElem?_cons_succ, List.getElem?_cons_zero]; rfl) | rfl))); simp only [Act.put, List.setIfInBounds_toArray, List.set_cons_zero, List.set_cons_succ, q1]))
    refine det_end ?_
    intro w1 hS
    have hx1 := hS.2
    clear hS c0 c1 f1 hl
    have H1 := Lib.hid (H0.out.ext hx1)
    have T1 := T0.thenExt hx1
    clear hx1
    have c0 := H1.out.c0
    have c1 := H1.out.c1
    have f1 := H1.out.f1 1
    have hl := H1.out.lt
    go_wp2_with fail
    refine wp_region_det (Stood _) (by kernel_rfl) (by kernel_rfl) (Stood.start _) ?_
    repeat (first
      | (refine det_skip (by rfl) ?_; simp only [Act.put, List.setIfInBounds_toArray, List.set_cons_zero, List.set_cons_succ, q3])
      | (refine det_op (v := ?_) rfl (by rfl) (fun w' hS => ?_) ?_; rotate_left; (focus (obtain ⟨hcl, hxt⟩ := hS; go_wp2_with (fail); (first | refine ⟨?_, rfl, hcl, hxt⟩ | refine ⟨?_, rfl, Stood.of (hxt.trans (by assumption))⟩); (first | (simp only [List.getElem?_toArray, List.getElem?_cons_succ, List.getElem?_cons_zero]; rfl) | rfl))); simp only [Act.put, List.setIfInBounds_toArray, List.set_cons_zero, List.set_cons_succ, q3]))
    refine det_end ?_
    intro w2 hS
    have hx2 := hS.2
    clear hS c0 c1 f1 hl
    have H2 := Lib.hid (H1.out.ext hx2)
    have T2 := T1.thenExt hx2
    clear hx2
    have c0 := H2.out.c0
    have c1 := H2.out.c1
    have f1 := H2.out.f1 1
    have hl := H2.out.lt
    go_wp2_with fail
    go_ret2
    exact ⟨a, 0, false, rfl, H2.out, ha, T2, .inl ⟨hv.out, rfl, rfl⟩⟩
set_option maxHeartbeats 1600000 in
set_option maxRecDepth 100000 in
theorem glRanged_any (s : ByteArray) (hs : s.size ≤ 100000) (rb a : Nat) (w : World) (h : RdAt w rb s a) (ha : a ≤ s.size) : Calls Tryd.prog 21 #[.pointer (some ⟨rb, 0, none⟩)] w fun x w' => x = .returned (.bool (rangedB (suf s a))) ∧ Turn (· = rb) w w' ∧ RdAt w' rb s a := by
  have H0 := Lib.hid h
  have T0 : Turn (· = rb) w w := Turn.refl _
  have c0 := h.c0
  have c1 := h.c1
  have f1 := h.f1 1
  have hl := h.lt
  have gb := get_bt s
  clear h
  have hz := suf_size s a
  by_cases h0 : a + 1 < s.size
  · have q1 : decide ((a : Int) + 1 < (s.size : Int)) = true := decide_eq_true (by omega)
    have i1 : (a : Int) < (s.size : Int) := by omega
    have i2 : (a : Int) + 1 < (s.size : Int) := by omega
    have e0 : bt (suf s a) 0 = bt s a := suf_bt (by omega)
    have e1 : bt (suf s a) 1 = bt s (a + 1) := suf_bt (by omega)
    have hv : Hid (rangedB (suf s a) = ((bt s a == 45) && !(bt s (a + 1) == 93))) := Lib.hid (by
      unfold rangedB
      rw [decide_eq_true (by omega), e0, e1, Bool.true_and])
    clear e0 e1 hz
    cases q2 : bt s a == 45 with
    | true =>
      rw [q2] at hv
      go_enter Tryd.func21, Tryd.ntmps21
      go_wp2_with fail
      refine wp_region_det (Stood _) (by kernel_rfl) (by kernel_rfl) (Stood.start _) ?_
      repeat (first
        | (refine det_skip (by rfl) ?_; simp only [Act.put, List.setIfInBounds_toArray, List.set_cons_zero, List.set_cons_succ, q1, q2])
        | (refine det_op (v := ?_) rfl (by rfl) (fun w' hS => ?_) ?_; rotate_left; (focus (obtain ⟨hcl, hxt⟩ := hS; go_wp2_with (fail); (first | refine ⟨?_, rfl, hcl, hxt⟩ | refine ⟨?_, rfl, Stood.of (hxt.trans (by assumption))⟩); (first | (simp only [List.getElem?_toArray, List.getElem?_cons_succ, List.getElem?_cons_zero]; rfl) | rfl))); simp only [Act.put, List.setIfInBounds_toArray, List.set_cons_zero, List.set_cons_succ, q1, q2]))
      refine det_end ?_
      intro w1 hS
      have hx1 := hS.2
      clear hS c0 c1 f1 hl
      have H1 := Lib.hid (H0.out.ext hx1)
      have T1 := T0.thenExt hx1
      clear hx1
      have c0 := H1.out.c0
      have c1 := H1.out.c1
      have f1 := H1.out.f1 1
      have hl := H1.out.lt
      go_wp2_with fail
      go_ret
      exact ⟨ret_bool (by rw [hv.out]; rfl), T1, H1.out⟩
    | false =>
      rw [q2] at hv
      go_enter Tryd.func21, Tryd.ntmps21
      go_wp2_with fail
      refine wp_region_det (Stood _) (by kernel_rfl) (by kernel_rfl) (Stood.start _) ?_
      repeat (first
        | (refine det_skip (by rfl) ?_; simp only [Act.put, List.setIfInBounds_toArray, List.set_cons_zero, List.set_cons_succ, q1, q2])
        | (refine det_op (v := ?_) rfl (by rfl) (fun w' hS => ?_) ?_; rotate_left; (focus (obtain ⟨hcl, hxt⟩ := hS; go_wp2_with (fail); (first | refine ⟨?_, rfl, hcl, hxt⟩ | refine ⟨?_, rfl, Stood.of (hxt.trans (by assumption))⟩); (first | (simp only [List.getElem?_toArray, List.getElem?_cons_succ, List.getElem?_cons_zero]; rfl) | rfl))); simp only [Act.put, List.setIfInBounds_toArray, List.set_cons_zero, List.set_cons_succ, q1, q2]))
      refine det_end ?_
      intro w1 hS
      have hx1 := hS.2
      clear hS c0 c1 f1 hl
      have H1 := Lib.hid (H0.out.ext hx1)
      have T1 := T0.thenExt hx1
      clear hx1
      have c0 := H1.out.c0
      have c1 := H1.out.c1
      have f1 := H1.out.f1 1
      have hl := H1.out.lt
      go_wp2_with fail
      go_ret
      exact ⟨ret_bool (by rw [hv.out]; rfl), T1, H1.out⟩
  · have q1 : decide ((a : Int) + 1 < (s.size : Int)) = false := decide_eq_false (by omega)
    have hv : Hid (rangedB (suf s a) = false) := Lib.hid (by
      unfold rangedB
      rw [decide_eq_false (by omega), Bool.false_and, Bool.false_and])
    clear hz
    go_enter Tryd.func21, Tryd.ntmps21
    go_wp2_with fail
    refine wp_region_det (Stood _) (by kernel_rfl) (by kernel_rfl) (Stood.start _) ?_
    repeat (first
      | (refine det_skip (by rfl) ?_; simp only [Act.put, List.setIfInBounds_toArray, List.set_cons_zero, List.set_cons_succ, q1])
      | (refine det_op (v := ?_) rfl (by rfl) (fun w' hS => ?_) ?_; rotate_left; (focus (obtain ⟨hcl, hxt⟩ := hS; go_wp2_with (fail); (first | refine ⟨?_, rfl, hcl, hxt⟩ | refine ⟨?_, rfl, Stood.of (hxt.trans (by assumption))⟩); (first | (simp only [List.getElem?_toArray, List.getElem?_cons_succ, List.getElem?_cons_zero]; rfl) | rfl))); simp only [Act.put, List.setIfInBounds_toArray, List.set_cons_zero, List.set_cons_succ, q1]))
    refine det_end ?_
    intro w1 hS
    have hx1 := hS.2
    clear hS c0 c1 f1 hl
    have H1 := Lib.hid (H0.out.ext hx1)
    have T1 := T0.thenExt hx1
    clear hx1
    have c0 := H1.out.c0
    have c1 := H1.out.c1
    have f1 := H1.out.f1 1
    have hl := H1.out.lt
    go_wp2_with fail
    go_ret
    exact ⟨ret_bool (by rw [hv.out]), T1, H1.out⟩
end Go.Proofs.YtnnoeckmkjhdbaaDoor
