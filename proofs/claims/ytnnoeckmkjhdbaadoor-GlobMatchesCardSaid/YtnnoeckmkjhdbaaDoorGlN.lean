/-
  The reader of patterns: its tokens. No conditions but bounds.
-/
import Derived.Test.YtnnoeckmkjhdbaaDoorGlS
import Derived.Test.YtnnoeckmkjhdbaaDoorDetZ
namespace Go.Proofs.YtnnoeckmkjhdbaaDoor
open Go.RowKit Go.PlainAid

/-- A token under way: block b0 is the result, b1 the token. -/
structure NxSt (w0 wr : World) (rb b0 b1 : Nat) (s : ByteArray) (a : Nat) (m d : Bool) (g : Int → Bool) : Prop where
  rd : RdAt wr rb s a
  z : TokAt wr b0 false false (fun _ => false)
  t : TokAt wr b1 m d g
  turn : Turn (· = rb) w0 wr
  old : rb < w0.heap.size ∧ w0.heap.size ≤ b0 ∧ b0 < b1
variable {w0 wr w' : World} {rb b0 b1 a : Nat} {s : ByteArray} {m d : Bool} {g : Int → Bool}
theorem NxSt.ext (h : NxSt w0 wr rb b0 b1 s a m d g) (e : Ext wr w') : NxSt w0 w' rb b0 b1 s a m d g := ⟨h.rd.ext e, h.z.ext e, h.t.ext e, h.turn.thenExt e, h.old⟩
theorem NxSt.call (h : NxSt w0 wr rb b0 b1 s a m d g) {a' : Nat} (e : Turn (· = rb) wr w') (hr : RdAt w' rb s a') : NxSt w0 w' rb b0 b1 s a' m d g :=
  ⟨hr, h.z.turn e (by have := h.old; omega), h.t.turn e (by have := h.old; omega), h.turn.trans e (fun i hi => .inl hi), h.old⟩
theorem NxSt.move (h : NxSt w0 wr rb b0 b1 s a m d g) (b : Nat) {v : Value} (hv : v = .int .i64 (b : Int)) : NxSt w0 (wr.setCell ⟨rb, 1, none⟩ v) rb b0 b1 s b m d g :=
  ⟨h.rd.put b hv, h.z.other (by have := h.old; show b0 ≠ rb; omega) v, h.t.other (by have := h.old; show b1 ≠ rb; omega) v, h.turn.setCell (.inl rfl) v, h.old⟩
theorem NxSt.put (h : NxSt w0 wr rb b0 b1 s a m d g) (c : Nat) (b : Bool) : NxSt w0 (wr.setCell ⟨b1, 2 + c, none⟩ (.bool b)) rb b0 b1 s a m d (upd1 g (c : Int) b) :=
  ⟨h.rd.other (by have := h.old; show rb ≠ b1; omega) _, h.z.other (by have := h.old; show b0 ≠ b1; omega) _, h.t.put c b, h.turn.setCell (.inr (by have := h.old; show w0.heap.size ≤ b1; omega)) _, h.old⟩
theorem NxSt.putm (h : NxSt w0 wr rb b0 b1 s a m d g) (b : Bool) : NxSt w0 (wr.setCell ⟨b1, 0, none⟩ (.bool b)) rb b0 b1 s a b d g :=
  ⟨h.rd.other (by have := h.old; show rb ≠ b1; omega) _, h.z.other (by have := h.old; show b0 ≠ b1; omega) _, h.t.putm b, h.turn.setCell (.inr (by have := h.old; show w0.heap.size ≤ b1; omega)) _, h.old⟩
theorem NxSt.putd (h : NxSt w0 wr rb b0 b1 s a m d g) (b : Bool) : NxSt w0 (wr.setCell ⟨b1, 1, none⟩ (.bool b)) rb b0 b1 s a m b g :=
  ⟨h.rd.other (by have := h.old; show rb ≠ b1; omega) _, h.z.other (by have := h.old; show b0 ≠ b1; omega) _, h.t.putd b, h.turn.setCell (.inr (by have := h.old; show w0.heap.size ≤ b1; omega)) _, h.old⟩
/-- What 'next' leaves. -/
def NextR (s : ByteArray) (rb a : Nat) (w : World) (x : Ending) (w' : World) : Prop := ∃ (a' : Nat) (m d : Bool) (g : Int → Bool) (ok : Bool), x = .returned (.tuple #[.agg (tokRow m d g), .bool ok]) ∧ RdAt w' rb s a' ∧ a' ≤ s.size ∧ Turn (· = rb) w w' ∧
  ((nextV (suf s a) = none ∧ ok = false) ∨ (nextV (suf s a) = some (⟨m, d, g⟩, suf s a') ∧ ok = true ∧ a < a'))
theorem results_next {w : World} {b : Nat} {cs : Array Value} {tmps : Array Value} {v : Value} (hp : tmps.getD 2 undef = .pointer (some ⟨b, 0, none⟩)) (h3 : tmps.getD 3 undef = v) (hn : cs.size = 258) (hg : w.heap[b]? = some (.cells cs 52 (0, 0))) :
    (results Tryd.f15 tmps).run Tryd.prog w = .ok (.tuple #[.agg cs, v]) w := by
  have hp' : tmps[2]?.getD undef = .pointer (some ⟨b, 0, none⟩) := by simpa using hp
  have h3' : tmps[3]?.getD undef = v := by simpa using h3
  simp [results, Tryd.results15, hp', h3', asAddr, run_loadVar_row w b 52 52 cs (0, 0) _ hg Tryd.underlying52 rfl (by rw [hn]; exact tokInfo)]
def noSl (c : Int) : Int → Bool := fun x => if x < c then !(x == 47) else false
theorem noSl_zero : ∀ c : Nat, c < 256 → (fun _ : Int => false) (c : Int) = noSl 0 (c : Int) := fun c _ => (if_neg (by omega)).symm
theorem noSl_step (c : Nat) (b : Bool) (hb : b = !((c : Int) == 47)) : upd1 (noSl (c : Int)) (c : Int) b = noSl ((c + 1 : Nat) : Int) := by
  funext x
  unfold upd1 noSl
  by_cases h : x = c
  · rw [if_pos h, h, if_pos (by omega), hb]
  · rw [if_neg h]
    by_cases h2 : x < (c : Int)
    · rw [if_pos h2, if_pos (by omega)]
    · rw [if_neg h2, if_neg (by omega)]
theorem noSl_all : ∀ c : Nat, c < 256 → noSl ((256 : Nat) : Int) (c : Int) = (fun x : Int => !(x == 47)) (c : Int) := fun c hc => if_pos (by omega)
theorem oneB (c : Nat) : ∀ x : Nat, x < 256 → upd1 (fun _ => false) (c : Int) true (x : Int) = (fun y : Int => y == (c : Int)) (x : Int) := fun x _ => by
  unfold upd1
  by_cases h : (x : Int) = (c : Int)
  · rw [if_pos h]
    simp [h]
  · rw [if_neg h]
    simpa using h
set_option maxHeartbeats 2000000 in
set_option maxRecDepth 100000 in
theorem glNext_any (s : ByteArray) (hs : s.size ≤ 100000) (rb a : Nat) (w : World) (h : RdAt w rb s a) (ha : a < s.size) : Calls Tryd.prog 15 #[.pointer (some ⟨rb, 0, none⟩)] w (NextR s rb a w) := by
  have H0 := Lib.hid h
  have gb := get_bt s
  have hlw := h.lt
  have c0 := h.c0
  have c1 := h.c1
  have f1 := h.f1 1
  have i1 : (a : Int) < (s.size : Int) := by omega
  have hsz := suf_size s a
  have e0 : Hid (bt (suf s a) 0 = bt s a) := Lib.hid (suf_bt (by omega))
  obtain ⟨N, hNe⟩ : ∃ N, N = nextV (suf s a) := ⟨_, rfl⟩
  have HN := Lib.hid hNe
  have HSZ := Lib.hid hsz
  clear h hNe hsz
  go_enter Tryd.func15, Tryd.ntmps15
  go_upto_region 2 with fail
  have hs1 : NxSt w ((w.alloc (.cells zTok 52)).alloc (.cells zTok 52)) rb w.heap.size (w.heap.size + 1) s a false false (fun _ => false) := by
    have e1 : (w.alloc (.cells zTok 52)).heap.size = w.heap.size + 1 := by simp
    have n1 := TokAt.new (w.alloc (.cells zTok 52))
    rw [e1] at n1
    exact ⟨H0.out.ext (((Ext.refl w).alloc _).alloc _), (TokAt.new w).ext ((Ext.refl _).alloc _), n1, (((Ext.refl w).alloc _).alloc _).turn, hlw, Nat.le_refl _, Nat.lt_succ_self _⟩
  have S1 := Lib.hid hs1
  clear hs1 c0 c1 f1
  generalize (w.alloc (.cells zTok 52)).alloc (.cells zTok 52) = w1 at *
  have c0 := S1.out.rd.c0
  have c1 := S1.out.rd.c1
  have f1 := S1.out.rd.f1 1
  have hl := S1.out.rd.lt
  refine wp_region_det (Stood _) (by kernel_rfl) (by kernel_rfl) (Stood.start _) ?_
  repeat (first
    | (refine det_skip (by rfl) ?_; simp only [Act.put, List.setIfInBounds_toArray, List.set_cons_zero, List.set_cons_succ, ])
    | (refine det_op (v := ?_) rfl (by rfl) (fun w' hS => ?_) ?_; rotate_left; (focus (obtain ⟨hcl, hxt⟩ := hS; go_wp2_with (fail); (first | refine ⟨?_, rfl, hcl, hxt⟩ | refine ⟨?_, rfl, Stood.of (hxt.trans (by assumption))⟩); (first | (simp only [List.getElem?_toArray, List.getElem?_cons_succ, List.getElem?_cons_zero]; rfl) | rfl))); simp only [Act.put, List.setIfInBounds_toArray, List.set_cons_zero, List.set_cons_succ, ]))
  refine det_end ?_
  intro w2 hS
  have S2 := Lib.hid (S1.out.ext hS.2)
  clear hS c0 c1 f1 hl
  have c0 := S2.out.rd.c0
  have c1 := S2.out.rd.c1
  have f1 := S2.out.rd.f1 1
  have hl := S2.out.rd.lt
  have u0 := S2.out.t.c0
  have u1 := S2.out.t.c1
  have v0 := S2.out.t.fz 0
  have v1 := S2.out.t.fz 1
  have ht := S2.out.t.lt
  cases q1 : bt s a == 42 with
  | true =>
    obtain ⟨b, hb⟩ : ∃ b, b = a + 1 := ⟨_, rfl⟩
    have hbi : ((a : Int) + 1) = (b : Int) := by omega
    have S3 := Lib.hid (S2.out.move b (v := .int .i64 ((a : Int) + 1)) (by rw [hbi]))
    have hv0 : Hid (nextV (suf s a) = if b < s.size ∧ bt s b = 42 then some (⟨true, true, fun _ => false⟩, suf s (b + 1)) else some (⟨true, false, fun _ => false⟩, suf s b)) := Lib.hid (by
      unfold nextV
      rw [e0.out, if_pos (by simpa using q1), suf_suf, suf_suf, ← hb, show a + 2 = b + 1 by omega]
      by_cases h1 : b < s.size
      · have e1 : bt (suf s a) 1 = bt s b := by rw [hb]; exact suf_bt (by omega)
        rw [e1]
        have h2 : 1 < (suf s a).size := by rw [suf_size]; omega
        by_cases h3 : bt s b = 42
        · rw [if_pos ⟨h2, h3⟩, if_pos ⟨h1, h3⟩]
        · rw [if_neg (fun h => h3 h.2), if_neg (fun h => h3 h.2)]
      · rw [if_neg (fun h => by have := h.1; rw [suf_size] at this; omega), if_neg (fun h => h1 h.1)])
    have hab : a < b ∧ b ≤ s.size := by omega
    have HB := Lib.hid hb
    clear hb hbi
    go_wp2_with fail
    clear c0 c1 f1 hl u0 u1 v0 v1 ht
    generalize w2.setCell ⟨rb, 1, none⟩ (.int .i64 ((a : Int) + 1)) = w3 at *
    by_cases h1 : b < s.size
    · have q4 : decide ((b : Int) < (s.size : Int)) = true := decide_eq_true (by omega)
      have i2 : (b : Int) < (s.size : Int) := by omega
      by_cases h3 : bt s b = 42
      · have q5 : (bt s b == 42) = true := by rw [h3]; rfl
        have hv : Hid (nextV (suf s a) = some (⟨true, true, fun _ => false⟩, suf s (b + 1))) := Lib.hid (by rw [hv0.out, if_pos ⟨h1, h3⟩])
        clear h3
        refine wp_region_detT (fun fl _ W => NxSt w W rb w.heap.size (w.heap.size + 1) s b fl false (fun _ => false)) false 25 99 (by kernel_rfl) (by kernel_rfl) (S3.out.ext (Ext.refl _).drew) ?_
        simp only [List.take_succ_cons, List.take_zero, List.drop_succ_cons, List.drop_zero]
        repeat (first
          | (refine detT_skip (by decide) (by rfl) ?_; simp only [Act.put, List.setIfInBounds_toArray, List.set_cons_zero, List.set_cons_succ, q4, q5])
          | (refine detT_plain (v := ?_) (by decide) rfl (by rfl) (fun _ _ w9 hS => ?_) ?_; rotate_left; (focus (have c0 := hS.rd.c0; have c1 := hS.rd.c1; go_wp2_with fail; refine ⟨?_, rfl, hS⟩; (first | (simp only [List.getElem?_toArray, List.getElem?_cons_succ, List.getElem?_cons_zero]; rfl) | rfl))); simp only [Act.put, List.setIfInBounds_toArray, List.set_cons_zero, List.set_cons_succ, q4, q5])
          | (refine detT_write (by decide) rfl ⟨_, _, _, rfl⟩ (by rfl) (fun _ _ w9 hS => ?_) ?_; (focus (have x0 := hS.t.c0; have y0 := hS.t.fz 0; go_wp2_with fail; exact hS.putm true)); simp only [Act.put, List.setIfInBounds_toArray, List.set_cons_zero, List.set_cons_succ, q4, q5]))
        refine detT_end ?_
        intro w4 hS
        have S4 := Lib.hid hS
        clear hS
        have x0 := S4.out.t.c1
        have y0 := S4.out.t.fz 1
        have z0 := S4.out.t.lt
        have c0 := S4.out.rd.c0
        have c1 := S4.out.rd.c1
        have f1 := S4.out.rd.f1 1
        have hl := S4.out.rd.lt
        have S5 := Lib.hid (S4.out.putd true)
        have x5 := S5.out.t.c1
        have c5 := S5.out.rd.c1
        have f5 := S5.out.rd.f1 1
        have S6 := Lib.hid (S5.out.move (b + 1) (v := .int .i64 ((b : Int) + 1)) (by simp))
        have HT := Lib.hid S6.out.t
        have HZ := Lib.hid S6.out.z
        have HT9 := Lib.hid (S6.out.turn.setRow (b := w.heap.size) (.inr (Nat.le_refl _)) (tokRow true true (fun _ => false)))
        have HR9 := Lib.hid (S6.out.rd.row (b := w.heap.size) (by omega) (tokRow true true (fun _ => false)))
        have HZ9 := Lib.hid (S6.out.z.row true true (fun _ => false))
        go_wp2_with (first | (refine wpList_load_row rfl 52 (.tmp 4) rfl (w.heap.size + 1) rfl 52 (tokRow true true (fun _ => false)) (0, 0) _ HT.out Tryd.underlying52 rfl tokInfo2 ?_) | (refine wpList_store_row rfl 52 (.tmp 2) (.tmp 103) rfl w.heap.size (tokRow true true (fun _ => false)) rfl rfl 52 _ HZ.out tokInfo2 (by rw [tokRow_size, tokRow_size]) (tokRow_one _ _ _) ?_))
        exact bodyPost_ret (v := .tuple #[.agg (tokRow true true (fun _ => false)), .bool true]) (results_next (by rfl) (by rfl) (tokRow_size _ _ _) HZ9.out) rfl ⟨b + 1, true, true, (fun _ => false), true, rfl, HR9.out, by omega, HT9.out, .inr ⟨hv.out, rfl, by omega⟩⟩
      · have q5 : (bt s b == 42) = false := by simpa using h3
        have hv : Hid (nextV (suf s a) = some (⟨true, false, fun _ => false⟩, suf s b)) := Lib.hid (by rw [hv0.out, if_neg (fun h => h3 h.2)])
        clear h3
        refine wp_region_detT (fun fl _ W => NxSt w W rb w.heap.size (w.heap.size + 1) s b fl false (fun _ => false)) false 25 99 (by kernel_rfl) (by kernel_rfl) (S3.out.ext (Ext.refl _).drew) ?_
        simp only [List.take_succ_cons, List.take_zero, List.drop_succ_cons, List.drop_zero]
        repeat (first
          | (refine detT_skip (by decide) (by rfl) ?_; simp only [Act.put, List.setIfInBounds_toArray, List.set_cons_zero, List.set_cons_succ, q4, q5])
          | (refine detT_plain (v := ?_) (by decide) rfl (by rfl) (fun _ _ w9 hS => ?_) ?_; rotate_left; (focus (have c0 := hS.rd.c0; have c1 := hS.rd.c1; go_wp2_with fail; refine ⟨?_, rfl, hS⟩; (first | (simp only [List.getElem?_toArray, List.getElem?_cons_succ, List.getElem?_cons_zero]; rfl) | rfl))); simp only [Act.put, List.setIfInBounds_toArray, List.set_cons_zero, List.set_cons_succ, q4, q5])
          | (refine detT_write (by decide) rfl ⟨_, _, _, rfl⟩ (by rfl) (fun _ _ w9 hS => ?_) ?_; (focus (have x0 := hS.t.c0; have y0 := hS.t.fz 0; go_wp2_with fail; exact hS.putm true)); simp only [Act.put, List.setIfInBounds_toArray, List.set_cons_zero, List.set_cons_succ, q4, q5]))
        refine detT_end ?_
        intro w4 hS
        have S4 := Lib.hid hS
        clear hS
        have x0 := S4.out.t.c1
        have y0 := S4.out.t.fz 1
        have z0 := S4.out.t.lt
        have S5 := Lib.hid (S4.out.putd false)
        have x5 := S5.out.t.c1
        have HT := Lib.hid S5.out.t
        have HZ := Lib.hid S5.out.z
        have HT9 := Lib.hid (S5.out.turn.setRow (b := w.heap.size) (.inr (Nat.le_refl _)) (tokRow true false (fun _ => false)))
        have HR9 := Lib.hid (S5.out.rd.row (b := w.heap.size) (by omega) (tokRow true false (fun _ => false)))
        have HZ9 := Lib.hid (S5.out.z.row true false (fun _ => false))
        go_wp2_with (first | (refine wpList_load_row rfl 52 (.tmp 4) rfl (w.heap.size + 1) rfl 52 (tokRow true false (fun _ => false)) (0, 0) _ HT.out Tryd.underlying52 rfl tokInfo2 ?_) | (refine wpList_store_row rfl 52 (.tmp 2) (.tmp 103) rfl w.heap.size (tokRow true false (fun _ => false)) rfl rfl 52 _ HZ.out tokInfo2 (by rw [tokRow_size, tokRow_size]) (tokRow_one _ _ _) ?_))
        exact bodyPost_ret (v := .tuple #[.agg (tokRow true false (fun _ => false)), .bool true]) (results_next (by rfl) (by rfl) (tokRow_size _ _ _) HZ9.out) rfl ⟨b, true, false, (fun _ => false), true, rfl, HR9.out, by omega, HT9.out, .inr ⟨hv.out, rfl, by omega⟩⟩
    · have q4 : decide ((b : Int) < (s.size : Int)) = false := decide_eq_false (by omega)
      have hv : Hid (nextV (suf s a) = some (⟨true, false, fun _ => false⟩, suf s b)) := Lib.hid (by rw [hv0.out, if_neg (fun h => h1 h.1)])
      refine wp_region_detT (fun fl _ W => NxSt w W rb w.heap.size (w.heap.size + 1) s b fl false (fun _ => false)) false 25 99 (by kernel_rfl) (by kernel_rfl) (S3.out.ext (Ext.refl _).drew) ?_
      simp only [List.take_succ_cons, List.take_zero, List.drop_succ_cons, List.drop_zero]
      repeat (first
        | (refine detT_skip (by decide) (by rfl) ?_; simp only [Act.put, List.setIfInBounds_toArray, List.set_cons_zero, List.set_cons_succ, q4])
        | (refine detT_plain (v := ?_) (by decide) rfl (by rfl) (fun _ _ w9 hS => ?_) ?_; rotate_left; (focus (have c0 := hS.rd.c0; have c1 := hS.rd.c1; go_wp2_with fail; refine ⟨?_, rfl, hS⟩; (first | (simp only [List.getElem?_toArray, List.getElem?_cons_succ, List.getElem?_cons_zero]; rfl) | rfl))); simp only [Act.put, List.setIfInBounds_toArray, List.set_cons_zero, List.set_cons_succ, q4])
        | (refine detT_write (by decide) rfl ⟨_, _, _, rfl⟩ (by rfl) (fun _ _ w9 hS => ?_) ?_; (focus (have x0 := hS.t.c0; have y0 := hS.t.fz 0; go_wp2_with fail; exact hS.putm true)); simp only [Act.put, List.setIfInBounds_toArray, List.set_cons_zero, List.set_cons_succ, q4]))
      refine detT_end ?_
      intro w4 hS
      have S4 := Lib.hid hS
      clear hS
      have x0 := S4.out.t.c1
      have y0 := S4.out.t.fz 1
      have z0 := S4.out.t.lt
      have S5 := Lib.hid (S4.out.putd false)
      have x5 := S5.out.t.c1
      have HT := Lib.hid S5.out.t
      have HZ := Lib.hid S5.out.z
      have HT9 := Lib.hid (S5.out.turn.setRow (b := w.heap.size) (.inr (Nat.le_refl _)) (tokRow true false (fun _ => false)))
      have HR9 := Lib.hid (S5.out.rd.row (b := w.heap.size) (by omega) (tokRow true false (fun _ => false)))
      have HZ9 := Lib.hid (S5.out.z.row true false (fun _ => false))
      go_wp2_with (first | (refine wpList_load_row rfl 52 (.tmp 4) rfl (w.heap.size + 1) rfl 52 (tokRow true false (fun _ => false)) (0, 0) _ HT.out Tryd.underlying52 rfl tokInfo2 ?_) | (refine wpList_store_row rfl 52 (.tmp 2) (.tmp 103) rfl w.heap.size (tokRow true false (fun _ => false)) rfl rfl 52 _ HZ.out tokInfo2 (by rw [tokRow_size, tokRow_size]) (tokRow_one _ _ _) ?_))
      exact bodyPost_ret (v := .tuple #[.agg (tokRow true false (fun _ => false)), .bool true]) (results_next (by rfl) (by rfl) (tokRow_size _ _ _) HZ9.out) rfl ⟨b, true, false, (fun _ => false), true, rfl, HR9.out, by omega, HT9.out, .inr ⟨hv.out, rfl, by omega⟩⟩
  | false =>
    cases q2 : bt s a == 63 with
    | true =>
      have hv : Hid (nextV (suf s a) = some (⟨false, false, fun c => !(c == 47)⟩, suf s (a + 1))) := Lib.hid (by
        unfold nextV
        rw [e0.out, if_neg (by simpa using q1), if_pos (by simpa using q2), suf_suf])
      have S3 := Lib.hid (S2.out.move (a + 1) (v := .int .i64 ((a : Int) + 1)) (by simp))
      go_wp2_with fail
      go_loopw [81] (fun v wr => ∃ c : Nat, c ≤ 256 ∧ v = .int .i64 (c : Int) ∧ NxSt w wr rb w.heap.size (w.heap.size + 1) s (a + 1) false false (noSl (c : Int))) (fun v _ => 256 - (intOf v).toNat)
      case atStart =>
        refine ⟨0, by omega, rfl, ?_⟩
        have h3 := S3.out
        exact ⟨h3.rd, h3.z, by have := h3.t; unfold TokAt at this ⊢; rwa [tokRow_congr noSl_zero] at this, h3.turn, h3.old⟩
      case round =>
        obtain ⟨c, hc, rfl, hs7⟩ := hrel
        have S7 := Lib.hid hs7
        clear S3 c0 c1 f1 hl u0 u1 v0 v1 ht
        by_cases hlt : c < 256
        · have q9 : decide ((c : Int) < 256) = true := decide_eq_true (by omega)
          have i9 : (c : Int) < 256 := by omega
          have cc := hs7.t.cell hlt
          have cf := hs7.t.fz (2 + c)
          have ct := hs7.t.lt
          have S8 := Lib.hid (S7.out.put c ((c : Int) != 47))
          have hst := Lib.hid (noSl_step c ((c : Int) != 47) rfl)
          clear hs7
          go_wp2_with fail
          go_roundw
          case rel => exact ⟨c + 1, hlt, by go_num, by rw [← hst.out]; exact S8.out⟩
          case measure => simp [intOf]; omega
        · have hc6 : c = 256 := by omega
          subst hc6
          have HT := Lib.hid hs7.t
          have HZ := Lib.hid hs7.z
          have HT9 := Lib.hid (hs7.turn.setRow (b := w.heap.size) (.inr (Nat.le_refl _)) (tokRow false false (noSl ((256 : Nat) : Int))))
          have HR9 := Lib.hid (hs7.rd.row (b := w.heap.size) (by omega) (tokRow false false (noSl ((256 : Nat) : Int))))
          have HZ9 := Lib.hid (hs7.z.row false false (noSl ((256 : Nat) : Int)))
          clear hs7 S7
          generalize hmf : noSl ((256 : Nat) : Int) = mf at *
          have HMF := Lib.hid hmf
          clear hmf
          go_wp2_with (first | (refine wpList_load_row rfl 52 (.tmp 4) rfl (w.heap.size + 1) rfl 52 (tokRow false false mf) (0, 0) _ HT.out Tryd.underlying52 rfl tokInfo2 ?_) | (refine wpList_store_row rfl 52 (.tmp 2) (.tmp 103) rfl w.heap.size (tokRow false false mf) rfl rfl 52 _ HZ.out tokInfo2 (by rw [tokRow_size, tokRow_size]) (tokRow_one _ _ _) ?_))
          exact bodyPost_ret (v := .tuple #[.agg (tokRow false false mf), .bool true]) (results_next (by rfl) (by rfl) (tokRow_size _ _ _) HZ9.out) rfl ⟨a + 1, false, false, (fun x => !(x == 47)), true, by rw [← HMF.out, tokRow_congr (g' := fun x => !(x == 47)) noSl_all], HR9.out, by omega, HT9.out, .inr ⟨hv.out, rfl, by omega⟩⟩
    | false =>
      cases q3 : bt s a == 91 with
      | true =>
        have hv : Hid (nextV (suf s a) = (setV (suf s (a + 1))).map fun p => (⟨false, false, p.1⟩, p.2)) := Lib.hid (by
          unfold nextV
          rw [e0.out, if_neg (by simpa using q1), if_neg (by simpa using q2), if_pos (by simpa using q3), suf_suf])
        have S3 := Lib.hid (S2.out.move (a + 1) (v := .int .i64 ((a : Int) + 1)) (by simp))
        have CS := Lib.hid (glSet_any s hs rb (a + 1) _ S3.out.rd (by omega))
        go_wp2_with fail
        refine CS.out.mono ?_; rintro x w5 ⟨a2, g, ok, rfl, hr5, ha5, ht5, hcase⟩
        have S5 := Lib.hid (S3.out.call ht5 hr5)
        have HZ := Lib.hid S5.out.z
        have HT9 := Lib.hid (S5.out.turn.setRow (b := w.heap.size) (.inr (Nat.le_refl _)) (tokRow false false g))
        have HR9 := Lib.hid (S5.out.rd.row (b := w.heap.size) (by omega) (tokRow false false g))
        have HZ9 := Lib.hid (S5.out.z.row false false g)
        have HC := Lib.hid hcase
        clear hr5 ht5 CS hcase S3
        go_wp2_with (refine wpList_store_row rfl 52 (.tmp 2) (.tmp 101) rfl w.heap.size (tokRow false false g) rfl rfl 52 _ HZ.out tokInfo2 (by rw [tokRow_size, tokRow_size]) (tokRow_one _ _ _) ?_)
        refine bodyPost_ret (v := .tuple #[.agg (tokRow false false g), .bool ok]) (results_next (by rfl) (by rfl) (tokRow_size _ _ _) HZ9.out) rfl ⟨a2, false, false, g, ok, rfl, HR9.out, ha5, HT9.out, ?_⟩
        rcases HC.out with ⟨h1, h2⟩ | ⟨h1, h2, h3⟩
        · exact .inl ⟨by rw [hv.out, h1]; rfl, h2⟩
        · exact .inr ⟨by rw [hv.out, h1]; rfl, h2, by omega⟩
      | false =>
        have hv : Hid (nextV (suf s a) = (letV (suf s a)).map fun p => (⟨false, false, fun c => c == p.1⟩, p.2)) := Lib.hid (by
          unfold nextV
          rw [e0.out, if_neg (by simpa using q1), if_neg (by simpa using q2), if_neg (by simpa using q3)])
        have C1 := Lib.hid (glOne_any s hs rb a w2 S2.out.rd (by omega))
        go_wp2_with fail
        refine C1.out.mono ?_; rintro x w5 ⟨a2, c, ok, rfl, hr5, ha5, ht5, hcase⟩
        have S5 := Lib.hid (S2.out.call ht5 hr5)
        clear hr5 ht5 C1 c0 c1 f1 hl u0 u1 v0 v1 ht
        rcases hcase with ⟨hn, rfl, rfl⟩ | ⟨hl1, rfl, hlt⟩
        · have hN : Hid (nextV (suf s a) = none) := Lib.hid (by rw [hv.out, hn]; rfl)
          have HZ := Lib.hid S5.out.z
          have HT9 := Lib.hid (S5.out.turn.setRow (b := w.heap.size) (.inr (Nat.le_refl _)) zTok)
          have HR9 := Lib.hid (S5.out.rd.row (b := w.heap.size) (by omega) zTok)
          have HZ9 := Lib.hid (zrow S5.out.z)
          clear hn
          go_wp2_with (refine wpList_store_row rfl 52 (.tmp 2) (.tmp 26) rfl w.heap.size zTok rfl rfl 52 _ HZ.out tokInfo0 tokSize0 tokOne0 ?_)
          exact bodyPost_ret (v := .tuple #[.agg (tokRow false false (fun _ => false)), .bool false]) (results_next (by rfl) (by rfl) (tokRow_size _ _ _) HZ9.out) rfl ⟨a2, false, false, _, false, rfl, HR9.out, ha5, HT9.out, .inl ⟨hN.out, rfl⟩⟩
        · obtain ⟨d0, d1⟩ : 0 ≤ c ∧ c ≤ 255 := by obtain ⟨_, _, _, _, d0, d1⟩ := letV_at hl1; exact ⟨d0, d1⟩
          obtain ⟨n, rfl⟩ : ∃ n : Nat, c = (n : Int) := ⟨c.toNat, by omega⟩
          have hN : Hid (nextV (suf s a) = some (⟨false, false, fun y => y == (n : Int)⟩, suf s a2)) := Lib.hid (by rw [hv.out, hl1]; rfl)
          have i9 : (n : Int) < 256 := by omega
          have hn9 : n < 256 := by omega
          have cc := S5.out.t.cell hn9
          have cf := S5.out.t.fz (2 + n)
          have ct := S5.out.t.lt
          have S6 := Lib.hid (S5.out.put n true)
          have HT := Lib.hid S6.out.t
          have HZ := Lib.hid S6.out.z
          have HT9 := Lib.hid (S6.out.turn.setRow (b := w.heap.size) (.inr (Nat.le_refl _)) (tokRow false false (upd1 (fun _ => false) (n : Int) true)))
          have HR9 := Lib.hid (S6.out.rd.row (b := w.heap.size) (by omega) (tokRow false false (upd1 (fun _ => false) (n : Int) true)))
          have HZ9 := Lib.hid (S6.out.z.row false false (upd1 (fun _ => false) (n : Int) true))
          have HG := Lib.hid (oneB n)
          clear hl1 S6
          generalize upd1 (fun _ => false) (n : Int) true = mf at *
          go_wp2_with (first | (refine wpList_load_row rfl 52 (.tmp 4) rfl (w.heap.size + 1) rfl 52 (tokRow false false mf) (0, 0) _ HT.out Tryd.underlying52 rfl tokInfo2 ?_) | (refine wpList_store_row rfl 52 (.tmp 2) (.tmp 103) rfl w.heap.size (tokRow false false mf) rfl rfl 52 _ HZ.out tokInfo2 (by rw [tokRow_size, tokRow_size]) (tokRow_one _ _ _) ?_))
          exact bodyPost_ret (v := .tuple #[.agg (tokRow false false mf), .bool true]) (results_next (by rfl) (by rfl) (tokRow_size _ _ _) HZ9.out) rfl ⟨a2, false, false, (fun y => y == (n : Int)), true, by rw [tokRow_congr (g' := fun y => y == (n : Int)) HG.out], HR9.out, ha5, HT9.out, .inr ⟨hN.out, rfl, hlt⟩⟩
end Go.Proofs.YtnnoeckmkjhdbaaDoor
