/-
  The reader of patterns: its sets. No conditions but bounds.
-/
import Derived.Test.YtnnoeckmkjhdbaaDoorGlT
namespace Go.Proofs.YtnnoeckmkjhdbaaDoor
open Go.RowKit Go.PlainAid

theorem tokInfo2 {m d : Bool} {g : Int → Bool} : (Tryd.prog.info? 52).map (·.size) = some (tokRow m d g).size := by rw [tokRow_size]; exact tokInfo
theorem tokInfo0 : (Tryd.prog.info? 52).map (·.size) = some zTok.size := by rw [zeroTok]; exact tokInfo2
theorem tokSize0 {m d : Bool} {g : Int → Bool} : (tokRow m d g).size = zTok.size := by rw [zeroTok, tokRow_size, tokRow_size]
theorem tokOne0 : zTok.all (·.oneCell') = true := by rw [zeroTok]; exact tokRow_one _ _ _
theorem zrow {w : World} {tb : Nat} {m d : Bool} {g : Int → Bool} (h : TokAt w tb m d g) : TokAt (w.setRow tb zTok) tb false false (fun _ => false) := by rw [zeroTok]; exact h.row _ _ _
/-- What 'set' leaves. -/
def SetR (s : ByteArray) (rb a : Nat) (w : World) (x : Ending) (w' : World) : Prop := ∃ (a' : Nat) (g : Int → Bool) (ok : Bool), x = .returned (.tuple #[.agg (tokRow false false g), .bool ok]) ∧ RdAt w' rb s a' ∧ a' ≤ s.size ∧ Turn (· = rb) w w' ∧
  ((setV (suf s a) = none ∧ ok = false) ∨ (setV (suf s a) = some (g, suf s a') ∧ ok = true ∧ a < a'))
theorem results_set {w : World} {b : Nat} {cs : Array Value} {tmps : Array Value} {v : Value} (hp : tmps.getD 2 undef = .pointer (some ⟨b, 0, none⟩)) (h3 : tmps.getD 3 undef = v) (hn : cs.size = 258) (hg : w.heap[b]? = some (.cells cs 52 (0, 0))) :
    (results Tryd.f18 tmps).run Tryd.prog w = .ok (.tuple #[.agg cs, v]) w := by
  have hp' : tmps[2]?.getD undef = .pointer (some ⟨b, 0, none⟩) := by simpa using hp
  have h3' : tmps[3]?.getD undef = v := by simpa using h3
  simp [results, Tryd.results18, hp', h3', asAddr, run_loadVar_row w b 52 52 cs (0, 0) _ hg Tryd.underlying52 rfl (by rw [hn]; exact tokInfo)]
def mixF (n : Bool) (g : Int → Bool) (c : Int) : Int → Bool := fun x => if x < c then finS n g x else g x
theorem mix_self (n : Bool) (g : Int → Bool) (c : Int) : mixF n g c c = g c := if_neg (by omega)
theorem mix_zero (n : Bool) (g : Int → Bool) : ∀ c : Nat, c < 256 → g (c : Int) = mixF n g 0 (c : Int) := fun c _ => (if_neg (by omega)).symm
theorem mix_step (n : Bool) (g : Int → Bool) (c : Nat) : upd1 (mixF n g (c : Int)) (c : Int) (finS n g (c : Int)) = mixF n g ((c + 1 : Nat) : Int) := by
  funext x
  unfold upd1 mixF
  by_cases h : x = c
  · rw [if_pos h, h, if_pos (by omega)]
  · rw [if_neg h]
    by_cases h2 : x < (c : Int)
    · rw [if_pos h2, if_pos (by omega)]
    · rw [if_neg h2, if_neg (by omega)]
theorem mix_all (n : Bool) (g : Int → Bool) : ∀ c : Nat, c < 256 → mixF n g (256 : Nat) (c : Int) = finS n g (c : Int) := fun c hc => if_pos (by omega)
theorem addR_none (g : Int → Bool) (a : Int) : addR g a (a - 1) = g := by
  funext x
  unfold addR
  by_cases h : a ≤ x
  · rw [decide_eq_true h, decide_eq_false (by omega), Bool.and_false, Bool.or_false]
  · rw [decide_eq_false h, Bool.false_and, Bool.or_false]
theorem addR_step (g : Int → Bool) {lo c : Nat} (h : lo ≤ c) : upd1 (addR g (lo : Int) ((c : Int) - 1)) (c : Int) true = addR g (lo : Int) (((c + 1 : Nat) : Int) - 1) := by
  funext x
  unfold upd1 addR
  by_cases hx : x = (c : Int)
  · rw [if_pos hx, hx, decide_eq_true (by omega), decide_eq_true (by omega)]
    simp
  · rw [if_neg hx]
    congr 2
    by_cases h1 : x ≤ (c : Int) - 1
    · rw [decide_eq_true h1, decide_eq_true (by omega)]
    · rw [decide_eq_false h1, decide_eq_false (by omega)]
theorem addR_past (g : Int → Bool) {lo hi c : Nat} (h : hi < c) (h2 : c ≤ hi + 1 ∨ c = lo) : addR g (lo : Int) ((c : Int) - 1) = addR g (lo : Int) (hi : Int) := by
  rcases h2 with h2 | h2
  · have : (c : Int) - 1 = (hi : Int) := by omega
    rw [this]
  · subst h2
    funext x
    unfold addR
    by_cases hx : (c : Int) ≤ x
    · rw [decide_eq_true hx, decide_eq_false (by omega), decide_eq_false (by omega)]
    · rw [decide_eq_false hx, Bool.false_and, Bool.false_and]
set_option maxHeartbeats 2000000 in
set_option maxRecDepth 100000 in
theorem glSet_any (s : ByteArray) (hs : s.size ≤ 100000) (rb a : Nat) (w : World) (h : RdAt w rb s a) (ha : a ≤ s.size) : Calls Tryd.prog 18 #[.pointer (some ⟨rb, 0, none⟩)] w (SetR s rb a w) := by
  have H0 := Lib.hid h
  have gb := get_bt s
  have hlw := h.lt
  have c0 := h.c0
  have c1 := h.c1
  have f1 := h.f1 1
  obtain ⟨nb, hnb⟩ : ∃ b, b = notB (suf s a) := ⟨_, rfl⟩
  obtain ⟨R, hRe⟩ : ∃ R, R = setL ((hdS (suf s a)).size + 1) true (fun _ => false) (hdS (suf s a)) := ⟨_, rfl⟩
  have hSV : Hid (setV (suf s a) = R.map fun p => (finS nb p.1, p.2)) := Lib.hid (by rw [hRe, hnb]; rfl)
  have hsz := suf_size s a
  have HNB := Lib.hid hnb
  have HRE := Lib.hid hRe
  clear h hnb hRe
  go_enter Tryd.func18, Tryd.ntmps18
  go_upto_region 2 with fail
  have hs1 : SetSt w ((w.alloc (.cells zTok 52)).alloc (.cells zTok 52)) rb w.heap.size (w.heap.size + 1) s a (fun _ => false) := by
    have e1 : (w.alloc (.cells zTok 52)).heap.size = w.heap.size + 1 := by simp
    have n1 := TokAt.new (w.alloc (.cells zTok 52))
    rw [e1] at n1
    exact ⟨H0.out.ext (((Ext.refl w).alloc _).alloc _), (TokAt.new w).ext ((Ext.refl _).alloc _), n1, (((Ext.refl w).alloc _).alloc _).turn, hlw, Nat.le_refl _, Nat.lt_succ_self _⟩
  have S1 := Lib.hid hs1
  clear hs1 c0 c1 f1
  generalize (w.alloc (.cells zTok 52)).alloc (.cells zTok 52) = w1 at *
  have c0 := S1.out.rd.c0
  have c1 := S1.out.rd.c1
  have f1 := S1.out.rd.f1 1
  have hl := S1.out.rd.lt
  go_cut [5] (fun v wx => v = .bool nb ∧ SetSt w wx rb w.heap.size (w.heap.size + 1) s a (fun _ => false))
  case first =>
    by_cases h0 : a < s.size
    · have q1 : decide ((a : Int) < (s.size : Int)) = true := decide_eq_true (by omega)
      have i1 : (a : Int) < (s.size : Int) := by omega
      have e0 : bt (suf s a) 0 = bt s a := suf_bt (by omega)
      have hv : Hid (nb = (bt s a == 33 || bt s a == 94)) := Lib.hid (by
        rw [HNB.out]
        unfold notB
        rw [e0, decide_eq_true (by omega), Bool.true_and])
      clear e0 hsz
      cases q2 : bt s a == 33 with
      | true =>
        rw [q2] at hv
        refine wp_region_det (Stood _) (by kernel_rfl) (by kernel_rfl) (Stood.start _) ?_
        repeat (first
          | (refine det_skip (by rfl) ?_; simp only [Act.put, List.setIfInBounds_toArray, List.set_cons_zero, List.set_cons_succ, q1, q2])
          | (refine det_op (v := ?_) rfl (by rfl) (fun w' hS => ?_) ?_; rotate_left; (focus (obtain ⟨hcl, hxt⟩ := hS; go_wp2_with (fail); (first | refine ⟨?_, rfl, hcl, hxt⟩ | refine ⟨?_, rfl, Stood.of (hxt.trans (by assumption))⟩); (first | (simp only [List.getElem?_toArray, List.getElem?_cons_succ, List.getElem?_cons_zero]; rfl) | rfl))); simp only [Act.put, List.setIfInBounds_toArray, List.set_cons_zero, List.set_cons_succ, q1, q2]))
        refine det_end ?_
        intro w2 hS
        have S2 := Lib.hid (S1.out.ext hS.2)
        clear hS c0 c1 f1 hl
        have c0 := S2.out.rd.c0
        have c1 := S2.out.rd.c1
        have f1 := S2.out.rd.f1 1
        have hl := S2.out.rd.lt
        go_wp2_with fail
        go_meet
        exact ⟨by rw [hv.out]; rfl, S2.out⟩
      | false =>
        rw [q2] at hv
        cases q3 : bt s a == 94 with
        | true =>
          rw [q3] at hv
          refine wp_region_det (Stood _) (by kernel_rfl) (by kernel_rfl) (Stood.start _) ?_
          repeat (first
            | (refine det_skip (by rfl) ?_; simp only [Act.put, List.setIfInBounds_toArray, List.set_cons_zero, List.set_cons_succ, q1, q2, q3])
            | (refine det_op (v := ?_) rfl (by rfl) (fun w' hS => ?_) ?_; rotate_left; (focus (obtain ⟨hcl, hxt⟩ := hS; go_wp2_with (fail); (first | refine ⟨?_, rfl, hcl, hxt⟩ | refine ⟨?_, rfl, Stood.of (hxt.trans (by assumption))⟩); (first | (simp only [List.getElem?_toArray, List.getElem?_cons_succ, List.getElem?_cons_zero]; rfl) | rfl))); simp only [Act.put, List.setIfInBounds_toArray, List.set_cons_zero, List.set_cons_succ, q1, q2, q3]))
          refine det_end ?_
          intro w2 hS
          have S2 := Lib.hid (S1.out.ext hS.2)
          clear hS c0 c1 f1 hl
          have c0 := S2.out.rd.c0
          have c1 := S2.out.rd.c1
          have f1 := S2.out.rd.f1 1
          have hl := S2.out.rd.lt
          go_wp2_with fail
          go_meet
          exact ⟨by rw [hv.out]; rfl, S2.out⟩
        | false =>
          rw [q3] at hv
          refine wp_region_det (Stood _) (by kernel_rfl) (by kernel_rfl) (Stood.start _) ?_
          repeat (first
            | (refine det_skip (by rfl) ?_; simp only [Act.put, List.setIfInBounds_toArray, List.set_cons_zero, List.set_cons_succ, q1, q2, q3])
            | (refine det_op (v := ?_) rfl (by rfl) (fun w' hS => ?_) ?_; rotate_left; (focus (obtain ⟨hcl, hxt⟩ := hS; go_wp2_with (fail); (first | refine ⟨?_, rfl, hcl, hxt⟩ | refine ⟨?_, rfl, Stood.of (hxt.trans (by assumption))⟩); (first | (simp only [List.getElem?_toArray, List.getElem?_cons_succ, List.getElem?_cons_zero]; rfl) | rfl))); simp only [Act.put, List.setIfInBounds_toArray, List.set_cons_zero, List.set_cons_succ, q1, q2, q3]))
          refine det_end ?_
          intro w2 hS
          have S2 := Lib.hid (S1.out.ext hS.2)
          clear hS c0 c1 f1 hl
          have c0 := S2.out.rd.c0
          have c1 := S2.out.rd.c1
          have f1 := S2.out.rd.f1 1
          have hl := S2.out.rd.lt
          go_wp2_with fail
          go_meet
          exact ⟨by rw [hv.out]; rfl, S2.out⟩
    · have q1 : decide ((a : Int) < (s.size : Int)) = false := decide_eq_false (by omega)
      have hv : Hid (nb = false) := Lib.hid (by
        rw [HNB.out]
        unfold notB
        rw [decide_eq_false (by omega), Bool.false_and])
      clear hsz
      refine wp_region_det (Stood _) (by kernel_rfl) (by kernel_rfl) (Stood.start _) ?_
      repeat (first
        | (refine det_skip (by rfl) ?_; simp only [Act.put, List.setIfInBounds_toArray, List.set_cons_zero, List.set_cons_succ, q1])
        | (refine det_op (v := ?_) rfl (by rfl) (fun w' hS => ?_) ?_; rotate_left; (focus (obtain ⟨hcl, hxt⟩ := hS; go_wp2_with (fail); (first | refine ⟨?_, rfl, hcl, hxt⟩ | refine ⟨?_, rfl, Stood.of (hxt.trans (by assumption))⟩); (first | (simp only [List.getElem?_toArray, List.getElem?_cons_succ, List.getElem?_cons_zero]; rfl) | rfl))); simp only [Act.put, List.setIfInBounds_toArray, List.set_cons_zero, List.set_cons_succ, q1]))
      refine det_end ?_
      intro w2 hS
      have S2 := Lib.hid (S1.out.ext hS.2)
      clear hS c0 c1 f1 hl
      have c0 := S2.out.rd.c0
      have c1 := S2.out.rd.c1
      have f1 := S2.out.rd.f1 1
      have hl := S2.out.rd.lt
      go_wp2_with fail
      go_meet
      exact ⟨by rw [hv.out], S2.out⟩
  case rest =>
    obtain ⟨rfl, hs2⟩ := hcut
    have S2 := Lib.hid hs2
    clear hs2 c0 c1 f1 hl S1
    have c0 := S2.out.rd.c0
    have c1 := S2.out.rd.c1
    have f1 := S2.out.rd.f1 1
    have hl := S2.out.rd.lt
    go_upto_if 46 with fail
    go_cut [5] (fun v wx => v = .bool nb ∧ ∃ a1, SetSt w wx rb w.heap.size (w.heap.size + 1) s a1 (fun _ => false) ∧ a1 ≤ s.size ∧ a ≤ a1 ∧ suf s a1 = hdS (suf s a))
    case first =>
      cases nb with
      | true =>
        have hne : a < s.size ∧ hdS (suf s a) = suf s (a + 1) := by
          have h1 := HNB.out
          unfold hdS
          rw [← h1, if_pos rfl, suf_suf]
          unfold notB at h1
          refine ⟨?_, rfl⟩
          by_cases h0 : (suf s a).size ≠ 0
          · omega
          · rw [decide_eq_false h0, Bool.false_and] at h1
            cases h1
        have i1 : (a : Int) + 1 ≤ (s.size : Int) := by omega
        have S3 := Lib.hid (S2.out.move (a + 1) (v := .int .i64 ((a : Int) + 1)) (by simp))
        have HNE := Lib.hid hne
        clear hne hsz
        go_wp2_with fail
        go_meet
        exact ⟨rfl, a + 1, S3.out, HNE.out.1, Nat.le_succ _, HNE.out.2.symm⟩
      | false =>
        have HNE : Hid (hdS (suf s a) = suf s a) := Lib.hid (by
          unfold hdS
          rw [← HNB.out, if_neg (by decide)])
        clear hsz
        go_wp2_with fail
        go_meet
        exact ⟨rfl, a, S2.out, ha, Nat.le_refl _, HNE.out.symm⟩
    case rest =>
      obtain ⟨rfl, a1, hs3, h1, h2, h3⟩ := hcut
      have S3 := Lib.hid hs3
      have H3 := Lib.hid h3
      clear hs3 h3 c0 c1 f1 hl S2
      go_wp2_with fail
      go_loopw [6] (fun v wr => ∃ (f : Nat) (first : Bool) (g : Int → Bool) (a2 : Nat), v = .bool first ∧ SetSt w wr rb w.heap.size (w.heap.size + 1) s a2 g ∧ a2 ≤ s.size ∧ a1 ≤ a2 ∧ s.size - a2 < f ∧ setL f first g (suf s a2) = R) (fun _ wr => s.size - posOf wr rb)
      case atStart =>
        refine ⟨(hdS (suf s a)).size + 1, true, _, a1, rfl, S3.out, h1, Nat.le_refl _, ?_, ?_⟩
        · rw [← H3.out, suf_size]
          omega
        · rw [HRE.out, H3.out]
      case round =>
        obtain ⟨f, first, g, a2, rfl, hs4, k1, k2, k3, k4⟩ := hrel
        obtain ⟨f, rfl⟩ : ∃ e, f = e + 1 := ⟨f - 1, by omega⟩
        have S4 := Lib.hid hs4
        have HR := Lib.hid k4
        have hpos := Lib.hid hs4.rd.pos
        have hsz2 := suf_size s a2
        clear hs4 k4 hsz S3
        have c0 := S4.out.rd.c0
        have c1 := S4.out.rd.c1
        have f1 := S4.out.rd.f1 1
        have hl := S4.out.rd.lt
        by_cases hb : a2 < s.size ∧ bt s a2 = 93 ∧ first = false
        · obtain ⟨p1, p2, rfl⟩ := hb
          have q1 : decide ((a2 : Int) < (s.size : Int)) = true := decide_eq_true (by omega)
          have i1 : (a2 : Int) < (s.size : Int) := by omega
          have q2 : (bt s a2 == 93) = true := by rw [p2]; rfl
          have hRg : Hid (R = some (g, suf s (a2 + 1))) := Lib.hid (by
            rw [← HR.out, setL_end ⟨by omega, by rw [suf_bt (by omega)]; exact p2, rfl⟩, suf_suf])
          clear p2 HR
          go_wp2_with fail
          refine wp_region_det (Stood _) (by kernel_rfl) (by kernel_rfl) (Stood.start _) ?_
          repeat (first
            | (refine det_skip (by rfl) ?_; simp only [Act.put, List.setIfInBounds_toArray, List.set_cons_zero, List.set_cons_succ, q1, q2])
            | (refine det_op (v := ?_) rfl (by rfl) (fun w' hS => ?_) ?_; rotate_left; (focus (obtain ⟨hcl, hxt⟩ := hS; go_wp2_with (fail); (first | refine ⟨?_, rfl, hcl, hxt⟩ | refine ⟨?_, rfl, Stood.of (hxt.trans (by assumption))⟩); (first | (simp only [List.getElem?_toArray, List.getElem?_cons_succ, List.getElem?_cons_zero]; rfl) | rfl))); simp only [Act.put, List.setIfInBounds_toArray, List.set_cons_zero, List.set_cons_succ, q1, q2]))
          refine det_end ?_
          intro w5 hS
          have S5 := Lib.hid (S4.out.ext hS.2)
          clear hS c0 c1 f1 hl
          have c0 := S5.out.rd.c0
          have c1 := S5.out.rd.c1
          have f1 := S5.out.rd.f1 1
          have hl := S5.out.rd.lt
          have S6 := Lib.hid (S5.out.move (a2 + 1) (v := .int .i64 ((a2 : Int) + 1)) (by simp))
          go_wp2_with fail
          go_loopw [124] (fun v wr => ∃ c : Nat, c ≤ 256 ∧ v = .int .i64 (c : Int) ∧ SetSt w wr rb w.heap.size (w.heap.size + 1) s (a2 + 1) (mixF nb g (c : Int))) (fun v _ => 256 - (intOf v).toNat)
          case atStart => exact ⟨0, by omega, rfl, S6.out.congr (mix_zero nb g)⟩
          case round =>
            obtain ⟨c, hc, rfl, hs7⟩ := hrel
            have S7 := Lib.hid hs7
            clear S6 c0 c1 f1 hl
            by_cases hlt : c < 256
            · have q9 : decide ((c : Int) < 256) = true := decide_eq_true (by omega)
              have i9 : (c : Int) < 256 := by omega
              have cc : wr.cell? ⟨w.heap.size + 1, 2 + c, none⟩ = some (.bool (g (c : Int))) := by
                have := hs7.t.cell hlt
                rwa [mix_self] at this
              have cf := hs7.t.fz (2 + c)
              have ct := hs7.t.lt
              have hst := Lib.hid (mix_step nb g c)
              have hfn : Hid (finS nb g (c : Int) = ((g (c : Int) != nb) && ((c : Int) != 47))) := Lib.hid rfl
              clear hs7
              cases q5 : (g (c : Int) != nb) with
              | true =>
                have p5 : ¬ g (c : Int) = nb := by simpa using q5
                cases q6 : ((c : Int) != 47) with
                | true =>
                  have S8 := Lib.hid (S7.out.put c true)
                  have hv : Hid (finS nb g (c : Int) = true) := Lib.hid (by rw [hfn.out, q5, q6]; rfl)
                  go_wp2_with fail
                  go_roundw
                  case rel => exact ⟨c + 1, hlt, by go_num, by rw [← hst.out, hv.out]; exact S8.out⟩
                  case measure => simp [intOf]; omega
                | false =>
                  have S8 := Lib.hid (S7.out.put c false)
                  have hv : Hid (finS nb g (c : Int) = false) := Lib.hid (by rw [hfn.out, q5, q6]; rfl)
                  go_wp2_with fail
                  go_roundw
                  case rel => exact ⟨c + 1, hlt, by go_num, by rw [← hst.out, hv.out]; exact S8.out⟩
                  case measure => simp [intOf]; omega
              | false =>
                have p5 : g (c : Int) = nb := by simpa using q5
                have S8 := Lib.hid (S7.out.put c false)
                have hv : Hid (finS nb g (c : Int) = false) := Lib.hid (by rw [hfn.out, q5]; rfl)
                go_wp2_with fail
                go_roundw
                case rel => exact ⟨c + 1, hlt, by go_num, by rw [← hst.out, hv.out]; exact S8.out⟩
                case measure => simp [intOf]; omega
            · have hc6 : c = 256 := by omega
              subst hc6
              have HT := Lib.hid hs7.t
              have HZ := Lib.hid hs7.z
              have HT9 := Lib.hid (hs7.turn.setRow (b := w.heap.size) (.inr (Nat.le_refl _)) (tokRow false false (mixF nb g ((256 : Nat) : Int))))
              have HR9 := Lib.hid (hs7.rd.row (b := w.heap.size) (by omega) (tokRow false false (mixF nb g ((256 : Nat) : Int))))
              have HZ9 := Lib.hid (hs7.z.row false false (mixF nb g ((256 : Nat) : Int)))
              clear hs7 S7
              generalize hmf : mixF nb g ((256 : Nat) : Int) = mf at *
              have HMF := Lib.hid hmf
              clear hmf
              go_wp2_with (first | (refine wpList_load_row rfl 52 (.tmp 4) rfl (w.heap.size + 1) rfl 52 (tokRow false false mf) (0, 0) _ HT.out Tryd.underlying52 rfl tokInfo2 ?_) | (refine wpList_store_row rfl 52 (.tmp 2) (.tmp 141) rfl w.heap.size (tokRow false false mf) rfl rfl 52 _ HZ.out tokInfo2 (by rw [tokRow_size, tokRow_size]) (tokRow_one _ _ _) ?_))
              exact bodyPost_ret (v := .tuple #[.agg (tokRow false false mf), .bool true]) (results_set (by rfl) (by rfl) (tokRow_size _ _ _) HZ9.out) rfl ⟨a2 + 1, finS nb g, true, by rw [← HMF.out, tokRow_congr (mix_all nb g)], HR9.out, by omega, HT9.out, .inr ⟨by rw [hSV.out, hRg.out]; rfl, rfl, by omega⟩⟩
        · have HB := Lib.hid hb
          clear hb
          go_upto_region 7 with fail
          go_cut [79] (fun v wx => v = .bool false ∧ SetSt w wx rb w.heap.size (w.heap.size + 1) s a2 g)
          case first =>
            by_cases p1 : a2 < s.size
            · have q1 : decide ((a2 : Int) < (s.size : Int)) = true := decide_eq_true (by omega)
              have i1 : (a2 : Int) < (s.size : Int) := by omega
              by_cases p2 : bt s a2 = 93
              · have q2 : (bt s a2 == 93) = true := by rw [p2]; rfl
                have hf : first = true := by
                  cases first with
                  | true => rfl
                  | false => exact absurd ⟨p1, p2, rfl⟩ HB.out
                subst hf
                clear p2
                refine wp_region_det (Stood _) (by kernel_rfl) (by kernel_rfl) (Stood.start _) ?_
                repeat (first
                  | (refine det_skip (by rfl) ?_; simp only [Act.put, List.setIfInBounds_toArray, List.set_cons_zero, List.set_cons_succ, q1, q2])
                  | (refine det_op (v := ?_) rfl (by rfl) (fun w' hS => ?_) ?_; rotate_left; (focus (obtain ⟨hcl, hxt⟩ := hS; go_wp2_with (fail); (first | refine ⟨?_, rfl, hcl, hxt⟩ | refine ⟨?_, rfl, Stood.of (hxt.trans (by assumption))⟩); (first | (simp only [List.getElem?_toArray, List.getElem?_cons_succ, List.getElem?_cons_zero]; rfl) | rfl))); simp only [Act.put, List.setIfInBounds_toArray, List.set_cons_zero, List.set_cons_succ, q1, q2]))
                refine det_end ?_
                intro w5 hS
                have S5 := Lib.hid (S4.out.ext hS.2)
                clear hS c0 c1 f1 hl
                have c0 := S5.out.rd.c0
                have c1 := S5.out.rd.c1
                have f1 := S5.out.rd.f1 1
                have hl := S5.out.rd.lt
                go_wp2_with fail
                go_meet
                exact ⟨rfl, S5.out⟩
              · have q2 : (bt s a2 == 93) = false := by simpa using p2
                clear p2
                refine wp_region_det (Stood _) (by kernel_rfl) (by kernel_rfl) (Stood.start _) ?_
                repeat (first
                  | (refine det_skip (by rfl) ?_; simp only [Act.put, List.setIfInBounds_toArray, List.set_cons_zero, List.set_cons_succ, q1, q2])
                  | (refine det_op (v := ?_) rfl (by rfl) (fun w' hS => ?_) ?_; rotate_left; (focus (obtain ⟨hcl, hxt⟩ := hS; go_wp2_with (fail); (first | refine ⟨?_, rfl, hcl, hxt⟩ | refine ⟨?_, rfl, Stood.of (hxt.trans (by assumption))⟩); (first | (simp only [List.getElem?_toArray, List.getElem?_cons_succ, List.getElem?_cons_zero]; rfl) | rfl))); simp only [Act.put, List.setIfInBounds_toArray, List.set_cons_zero, List.set_cons_succ, q1, q2]))
                refine det_end ?_
                intro w5 hS
                have S5 := Lib.hid (S4.out.ext hS.2)
                clear hS c0 c1 f1 hl
                have c0 := S5.out.rd.c0
                have c1 := S5.out.rd.c1
                have f1 := S5.out.rd.f1 1
                have hl := S5.out.rd.lt
                go_wp2_with fail
                go_meet
                exact ⟨rfl, S5.out⟩
            · have q1 : decide ((a2 : Int) < (s.size : Int)) = false := decide_eq_false (by omega)
              refine wp_region_det (Stood _) (by kernel_rfl) (by kernel_rfl) (Stood.start _) ?_
              repeat (first
                | (refine det_skip (by rfl) ?_; simp only [Act.put, List.setIfInBounds_toArray, List.set_cons_zero, List.set_cons_succ, q1])
                | (refine det_op (v := ?_) rfl (by rfl) (fun w' hS => ?_) ?_; rotate_left; (focus (obtain ⟨hcl, hxt⟩ := hS; go_wp2_with (fail); (first | refine ⟨?_, rfl, hcl, hxt⟩ | refine ⟨?_, rfl, Stood.of (hxt.trans (by assumption))⟩); (first | (simp only [List.getElem?_toArray, List.getElem?_cons_succ, List.getElem?_cons_zero]; rfl) | rfl))); simp only [Act.put, List.setIfInBounds_toArray, List.set_cons_zero, List.set_cons_succ, q1]))
              refine det_end ?_
              intro w5 hS
              have S5 := Lib.hid (S4.out.ext hS.2)
              clear hS c0 c1 f1 hl
              have c0 := S5.out.rd.c0
              have c1 := S5.out.rd.c1
              have f1 := S5.out.rd.f1 1
              have hl := S5.out.rd.lt
              go_wp2_with fail
              go_meet
              exact ⟨rfl, S5.out⟩
          case rest =>
            obtain ⟨rfl, hs5⟩ := hcut
            have S5 := Lib.hid hs5
            have HBL : Hid (¬ ((suf s a2).size ≠ 0 ∧ bt (suf s a2) 0 = 93 ∧ first = false)) := Lib.hid (fun hx => HB.out ⟨by omega, by have e := hx.2.1; rw [suf_bt (by omega)] at e; exact e, hx.2.2⟩)
            have C1 := Lib.hid (glOne_any s hs rb a2 wc hs5.rd k1)
            clear hs5 c0 c1 f1 hl S4 hsz2
            have c0 := S5.out.rd.c0
            have c1 := S5.out.rd.c1
            have f1 := S5.out.rd.f1 1
            have hl := S5.out.rd.lt
            go_wp2_with fail
            refine C1.out.mono ?_; rintro x w6 ⟨a3, low, ok, rfl, hr6, hz6, ht6, hcase⟩
            have S6 := Lib.hid (S5.out.call ht6 hr6)
            clear hr6 ht6 c0 c1 f1 hl C1
            have c0 := S6.out.rd.c0
            have c1 := S6.out.rd.c1
            have f1 := S6.out.rd.f1 1
            have hl := S6.out.rd.lt
            rcases hcase with ⟨hn, rfl, rfl⟩ | ⟨hl1, rfl, hlt⟩
            · have hN : Hid (R = none) := Lib.hid (by rw [← HR.out, setL_bad HBL.out hn])
              clear hn
              have HZ := Lib.hid S6.out.z
              have HT9 := Lib.hid (S6.out.turn.setRow (b := w.heap.size) (.inr (Nat.le_refl _)) zTok)
              have HR9 := Lib.hid (S6.out.rd.row (b := w.heap.size) (by omega) zTok)
              have HZ9 := Lib.hid (zrow S6.out.z)
              go_wp2_with (refine wpList_store_row rfl 52 (.tmp 2) (.tmp 112) rfl w.heap.size zTok rfl rfl 52 _ HZ.out tokInfo0 tokSize0 tokOne0 ?_)
              exact bodyPost_ret (v := .tuple #[.agg (tokRow false false (fun _ => false)), .bool false]) (results_set (by rfl) (by rfl) (tokRow_size _ _ _) HZ9.out) rfl ⟨a3, _, false, rfl, HR9.out, hz6, HT9.out, .inl ⟨by rw [hSV.out, hN.out]; rfl, rfl⟩⟩
            · obtain ⟨d0, d1⟩ : 0 ≤ low ∧ low ≤ 255 := by obtain ⟨_, _, _, _, d0, d1⟩ := letV_at hl1; exact ⟨d0, d1⟩
              obtain ⟨lo, rfl⟩ : ∃ n : Nat, low = (n : Int) := ⟨low.toNat, by omega⟩
              have HL := Lib.hid hl1
              have C2 := Lib.hid (glRanged_any s hs rb a3 w6 S6.out.rd hz6)
              clear hl1
              go_upto_if 97 with ((with_reducible refine C2.out.mono ?_); rintro x w7 ⟨rfl, ht7, hr7⟩)
              have S7 := Lib.hid (S6.out.call ht7 hr7)
              clear ht7 hr7 c0 c1 f1 hl C2
              have c0 := S7.out.rd.c0
              have c1 := S7.out.rd.c1
              have f1 := S7.out.rd.f1 1
              have hl := S7.out.rd.lt
              go_cut [9, 8] (fun hi okv wx => ∃ a4, SetSt w wx rb w.heap.size (w.heap.size + 1) s a4 g ∧ a4 ≤ s.size ∧ ((∃ high : Nat, hi = .int .u8 (high : Int) ∧ high ≤ 255 ∧ a3 ≤ a4 ∧ okv = .bool true ∧ R = setL f false (addR g (lo : Int) (high : Int)) (suf s a4)) ∨ (okv = .bool false ∧ R = none)))
              case first =>
                cases hrg : rangedB (suf s a3) with
                | true =>
                  have hz3 : a3 + 1 ≤ s.size := by
                    unfold rangedB at hrg
                    have hz4 := suf_size s a3
                    by_cases hh : 1 < (suf s a3).size
                    · omega
                    · rw [decide_eq_false hh, Bool.false_and, Bool.false_and] at hrg
                      cases hrg
                  have HRG := Lib.hid hrg
                  have S8 := Lib.hid (S7.out.move (a3 + 1) (v := .int .i64 ((a3 : Int) + 1)) (by simp))
                  have C3 := Lib.hid (glOne_any s hs rb (a3 + 1) _ S8.out.rd hz3)
                  go_wp2_with fail
                  refine C3.out.mono ?_; rintro x w9 ⟨a4, hb2, ok2, rfl, hr9, hz9, ht9, hcase2⟩
                  have S9 := Lib.hid (S8.out.call ht9 hr9)
                  clear ht9 hr9 C3 S8
                  rcases hcase2 with ⟨hn, rfl, rfl⟩ | ⟨hl2, rfl, hlt2⟩
                  · have hN : Hid (R = none) := Lib.hid (by rw [← HR.out, setL_half HBL.out HL.out HRG.out (by rw [suf_suf]; exact hn)])
                    clear hn
                    go_wp2_with fail
                    go_meet
                    exact ⟨a4, S9.out, hz9, .inr ⟨rfl, hN.out⟩⟩
                  · obtain ⟨g0, g1⟩ : 0 ≤ hb2 ∧ hb2 ≤ 255 := by obtain ⟨_, _, _, _, g0, g1⟩ := letV_at hl2; exact ⟨g0, g1⟩
                    obtain ⟨high, rfl⟩ : ∃ n : Nat, hb2 = (n : Int) := ⟨hb2.toNat, by omega⟩
                    have hN : Hid (R = setL f false (addR g (lo : Int) (high : Int)) (suf s a4)) := Lib.hid (by rw [← HR.out, setL_two HBL.out HL.out HRG.out (by rw [suf_suf]; exact hl2)])
                    clear hl2
                    go_wp2_with fail
                    go_meet
                    exact ⟨a4, S9.out, hz9, .inl ⟨high, rfl, by omega, by omega, rfl, hN.out⟩⟩
                | false =>
                  have hN : Hid (R = setL f false (addR g (lo : Int) (lo : Int)) (suf s a3)) := Lib.hid (by rw [← HR.out, setL_one HBL.out HL.out hrg])
                  go_wp2_with fail
                  go_meet
                  exact ⟨a3, S7.out, hz6, .inl ⟨lo, rfl, by omega, Nat.le_refl _, rfl, hN.out⟩⟩
              case rest =>
                obtain ⟨a4, hs8, m1, hcase⟩ := hcut
                have S8 := Lib.hid hs8
                clear hs8 c0 c1 f1 hl S7
                rcases hcase with ⟨high, rfl, m2, m3, rfl, hR8⟩ | ⟨rfl, hN8⟩
                · have HR8 := Lib.hid hR8
                  clear hR8 HR
                  go_wp2_with fail
                  go_loopw [10] (fun v wr => ∃ c : Nat, v = .int .i64 (c : Int) ∧ lo ≤ c ∧ (c ≤ high + 1 ∨ c = lo) ∧ SetSt w wr rb w.heap.size (w.heap.size + 1) s a4 (addR g (lo : Int) ((c : Int) - 1))) (fun v _ => high + 1 - (intOf v).toNat)
                  case atStart => exact ⟨lo, rfl, Nat.le_refl _, .inr rfl, by rw [addR_none]; exact S8.out⟩
                  case round =>
                    obtain ⟨c, rfl, n1, n2, hs9⟩ := hrel
                    have S9 := Lib.hid hs9
                    clear S8
                    by_cases hch : c ≤ high
                    · have q9 : decide ((c : Int) ≤ (high : Int)) = true := decide_eq_true (by omega)
                      have i9 : (c : Int) < 256 := by omega
                      have cc := hs9.t.cell (c := c) (by omega)
                      have cf := hs9.t.fz (2 + c)
                      have ct := hs9.t.lt
                      have S10 := Lib.hid (S9.out.put c true)
                      have hst := Lib.hid (addR_step g n1)
                      clear hs9
                      go_wp2_with fail
                      go_roundw
                      case rel => exact ⟨c + 1, by go_num, by omega, .inl (by omega), by rw [← hst.out]; exact S10.out⟩
                      case measure => simp [intOf]; omega
                    · have q9 : decide ((c : Int) ≤ (high : Int)) = false := decide_eq_false (by omega)
                      have S10 : Hid (SetSt w wr rb w.heap.size (w.heap.size + 1) s a4 (addR g (lo : Int) (high : Int))) := Lib.hid (by rw [← addR_past g (show high < c by omega) n2]; exact hs9)
                      clear hs9 S9
                      go_wp2_with fail
                      go_roundw
                      case rel => exact ⟨f, false, _, a4, rfl, S10.out, m1, by omega, by omega, HR8.out.symm⟩
                      case measure =>
                        rw [S10.out.rd.pos, hpos.out]
                        omega
                · have hN := Lib.hid hN8
                  clear hN8 HR
                  have HZ := Lib.hid S8.out.z
                  have HT9 := Lib.hid (S8.out.turn.setRow (b := w.heap.size) (.inr (Nat.le_refl _)) zTok)
                  have HR9 := Lib.hid (S8.out.rd.row (b := w.heap.size) (by omega) zTok)
                  have HZ9 := Lib.hid (zrow S8.out.z)
                  go_wp2_with (refine wpList_store_row rfl 52 (.tmp 2) (.tmp 112) rfl w.heap.size zTok rfl rfl 52 _ HZ.out tokInfo0 tokSize0 tokOne0 ?_)
                  exact bodyPost_ret (v := .tuple #[.agg (tokRow false false (fun _ => false)), .bool false]) (results_set (by rfl) (by rfl) (tokRow_size _ _ _) HZ9.out) rfl ⟨a4, _, false, rfl, HR9.out, m1, HT9.out, .inl ⟨by rw [hSV.out, hN.out]; rfl, rfl⟩⟩
end Go.Proofs.YtnnoeckmkjhdbaaDoor
