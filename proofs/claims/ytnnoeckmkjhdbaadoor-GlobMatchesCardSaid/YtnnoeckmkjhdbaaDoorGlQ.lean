/-
  The reference's sets of patterns. No conditions but bounds.
-/
import Derived.Test.YtnnoeckmkjhdbaaDoorGlS
import Derived.Test.YtnnoeckmkjhdbaaDoorGlR
import Derived.Test.YtnnoeckmkjhdbaaDoorMapR
import Derived.Test.YtnnoeckmkjhdbaaDoorShelf
namespace Go.Proofs.YtnnoeckmkjhdbaaDoor
open Go.RowKit Go.PlainAid
open Go.Maps (Keyed int_keyed)

theorem gl_pre (s : ByteArray) (c : UInt8) : Lib.hasPrefix s.data.toList [c] = (decide (s.size ≠ 0) && (bt s 0 == (c.toNat : Int))) := by
  obtain ⟨⟨l⟩⟩ := s
  cases l with
  | nil => rfl
  | cons x l =>
    have e : bt (⟨⟨x :: l⟩⟩ : ByteArray) 0 = (x.toNat : Int) := by
      unfold bt
      rw [dif_pos (by simp [ByteArray.size])]
      rfl
    rw [e]
    unfold Lib.hasPrefix
    by_cases h : c = x
    · subst h
      simp [ByteArray.size]
    · have h2 : ((x.toNat : Int) == (c.toNat : Int)) = false := by
        rw [beq_eq_false_iff_ne]
        exact fun e => h (UInt8.toNat_inj.1 (by omega))
      rw [h2]
      simp [h, List.isPrefixOf]
/-- The bytes of a set, as a map. -/
def bsF (g : Int → Bool) : Lit → Option Value := fun kl => match kl with | .int .u8 c => if (0 ≤ c ∧ c < 256) ∧ g c = true then some (.bool true) else none | _ => none
theorem bsF_none : bsF (fun _ => false) = fun _ => none := by
  funext kl
  unfold bsF
  split
  · rw [if_neg (fun h => by cases h.2)]
  · rfl
theorem bsF_set (g : Int → Bool) {c : Nat} (hc : c < 256) : setF (bsF g) (.int .u8 (c : Int)) (.bool true) = bsF (upd1 g (c : Int) true) := by
  funext kl
  unfold setF
  by_cases h : kl = .int .u8 (c : Int)
  · rw [if_pos h, h]
    unfold bsF upd1
    simp only
    rw [if_pos ⟨⟨by omega, by omega⟩, by simp⟩]
  · rw [if_neg h]
    unfold bsF upd1
    split
    · rename_i x
      have hx : x ≠ (c : Int) := fun e => h (by rw [e])
      rw [if_neg hx]
    · rfl
theorem bsF_get (g : Int → Bool) {c : Nat} (hc : c < 256) : (bsF g (.int .u8 (c : Int))).getD (.bool false) = .bool (g (c : Int)) := by
  unfold bsF
  simp only
  cases hg : g (c : Int) with
  | true => rw [if_pos ⟨⟨by omega, by omega⟩, rfl⟩]; rfl
  | false => rw [if_neg (fun h => by cases h.2)]; rfl
theorem bsF_congr {g g' : Int → Bool} (h : ∀ c : Nat, c < 256 → g (c : Int) = g' (c : Int)) : bsF g = bsF g' := by
  funext kl
  unfold bsF
  split
  · rename_i x
    by_cases hx : 0 ≤ x ∧ x < 256
    · have := h x.toNat (by omega)
      rw [show ((x.toNat : Nat) : Int) = x by omega] at this
      rw [this]
    · rw [if_neg (fun k => hx k.1), if_neg (fun k => hx k.1)]
  · rfl
theorem keyB (c : Nat) (h : c < 256) : keyOf Tryd.prog 5 (.int .u8 (c : Int)) = some (.int .u8 (c : Int)) := Maps.keyOf_int_mk Tryd.underlying5 (by
  have e1 : IntKind.u8.min = 0 := by decide
  have e2 : IntKind.u8.max = 255 := by decide
  show (decide (IntKind.u8.min ≤ (c : Int)) && decide ((c : Int) ≤ IntKind.u8.max)) = true
  rw [e1, e2, decide_eq_true (by omega), decide_eq_true (by omega)]
  rfl)
def mixO (n : Bool) (g : Int → Bool) (c : Int) : Int → Bool := fun x => if x < c then finS n g x else false
theorem mixO_zero (n : Bool) (g : Int → Bool) : bsF (mixO n g 0) = fun _ => none := by
  rw [← bsF_none]
  exact bsF_congr (fun c _ => if_neg (by omega))
theorem mixO_yes {n : Bool} {g : Int → Bool} {c : Nat} (h : finS n g (c : Int) = true) : upd1 (mixO n g (c : Int)) (c : Int) true = mixO n g ((c + 1 : Nat) : Int) := by
  funext x
  unfold upd1 mixO
  by_cases e : x = c
  · rw [if_pos e, e, if_pos (by omega), h]
  · rw [if_neg e]
    by_cases h2 : x < (c : Int)
    · rw [if_pos h2, if_pos (by omega)]
    · rw [if_neg h2, if_neg (by omega)]
theorem mixO_no {n : Bool} {g : Int → Bool} {c : Nat} (h : finS n g (c : Int) = false) : mixO n g (c : Int) = mixO n g ((c + 1 : Nat) : Int) := by
  funext x
  unfold mixO
  by_cases e : x = c
  · rw [e, if_neg (by omega), if_pos (by omega), h]
  · by_cases h2 : x < (c : Int)
    · rw [if_pos h2, if_pos (by omega)]
    · rw [if_neg h2, if_neg (by omega)]
theorem mixO_all (n : Bool) (g : Int → Bool) : bsF (mixO n g ((256 : Nat) : Int)) = bsF (finS n g) := bsF_congr (fun c hc => if_pos (by omega))
/-- What 'globSet' leaves. -/
def GsR (s : ByteArray) (w : World) (x : Ending) (w' : World) : Prop := ∃ (v : Value) (r : ByteArray) (ok : Bool), x = .returned (.tuple #[v, .string r, .bool ok]) ∧ Ext w w' ∧
  ((setV s = none ∧ ok = false ∧ v = .map none ∧ r = ⟨#[]⟩) ∨ (∃ g mb c, setV s = some (g, r) ∧ ok = true ∧ v = .map (some mb) ∧ w.heap.size ≤ mb ∧ c ≤ 256 ∧ MapF w' Tryd.prog 5 mb c (bsF g)))
theorem run_lookupF {P : Program} {k e t : TypeId} {w : World} {b c : Nat} {f : Lit → Option Value} (K : Keyed P k) (ht : P.underlying t = some (.map k e)) {z : Value} (hz : (zeroValue e).run P w = .ok z w) (h : MapF w P k b c f) {key : Value} {kl : Lit} (hkey : keyOf P k key = some kl) :
    (Instr.lookup t (.map (some b)) key false).run P w = .ok ((f kl).getD z) w := by
  obtain ⟨D, h1, _, _, hf, hh⟩ := h
  obtain ⟨v, ps, hrun, hv⟩ := h1.lookup K ht hz (zd := .held z) (zp := []) rfl hkey
  have e1 : v = (f kl).getD z := by
    rw [hf] at hv
    unfold heldE at hv
    cases hq : f kl with
    | none => rw [hq] at hv; simp at hv; simp [hv]
    | some y => rw [hq] at hv; simp at hv; simp [hv]
  rw [e1] at hrun
  exact hrun
def lenOf (v : Value) : Nat := match v with | .string s => s.size | _ => 0
set_option maxHeartbeats 2000000 in
set_option maxRecDepth 100000 in
theorem glSetQ_any (s : ByteArray) (hs : s.size ≤ 100000) (w : World) : Calls Tryd.prog 12 #[.string s] w (GsR s w) := by
  obtain ⟨nb, hnb⟩ : ∃ b, b = notB s := ⟨_, rfl⟩
  obtain ⟨R, hRe⟩ : ∃ R, R = setL ((hdS s).size + 1) true (fun _ => false) (hdS s) := ⟨_, rfl⟩
  have hSV : Hid (setV s = R.map fun p => (finS nb p.1, p.2)) := Lib.hid (by rw [hRe, hnb]; rfl)
  have HNB := Lib.hid hnb
  have HRE := Lib.hid hRe
  have p1 := fun w => Tryd.strings_HasPrefix s ⟨#[33]⟩ w
  have p2 := fun w => Tryd.strings_HasPrefix s ⟨#[94]⟩ w
  have e33 := gl_pre s 33
  have e94 := gl_pre s 94
  rw [show ((33 : UInt8).toNat : Int) = 33 from rfl] at e33
  rw [show ((94 : UInt8).toNat : Int) = 94 from rfl] at e94
  have hnv : Hid (nb = ((decide (s.size ≠ 0) && (bt s 0 == 33)) || (decide (s.size ≠ 0) && (bt s 0 == 94)))) := Lib.hid (by
    rw [hnb]
    unfold notB
    rw [Bool.and_or_distrib_left])
  rw [show (⟨#[33]⟩ : ByteArray).data.toList = [33] from rfl, e33] at p1
  rw [show (⟨#[94]⟩ : ByteArray).data.toList = [94] from rfl, e94] at p2
  generalize (decide (s.size ≠ 0) && (bt s 0 == 33)) = n1 at *
  generalize (decide (s.size ≠ 0) && (bt s 0 == 94)) = n2 at *
  have P1 := Lib.hid p1
  have P2 := Lib.hid p2
  have gb := fun t => get_bt t
  clear hnb hRe p1 p2 e33 e94
  go_enter Tryd.func12, Tryd.ntmps12
  go_upto_region 1 with fail
  go_cut [5] (fun v wx => v = .bool nb ∧ Ext w wx)
  case first =>
    cases n1 with
    | true =>
      go_wp2_with (first | ((with_reducible refine (P1.out _).mono ?_); rintro e w1 ⟨rfl, rfl⟩) | ((with_reducible refine (P2.out _).mono ?_); rintro e w1 ⟨rfl, rfl⟩))
      go_meet
      exact ⟨by rw [hnv.out]; rfl, Ext.refl _⟩
    | false =>
      go_wp2_with (first | ((with_reducible refine (P1.out _).mono ?_); rintro e w1 ⟨rfl, rfl⟩) | ((with_reducible refine (P2.out _).mono ?_); rintro e w1 ⟨rfl, rfl⟩))
      go_meet
      exact ⟨by rw [hnv.out]; rfl, Ext.refl _⟩
  case rest =>
    obtain ⟨rfl, hx1⟩ := hcut
    clear P1 P2 hnv
    go_upto_if 21 with fail
    go_cut [0] (fun v wx => v = .string (hdS s) ∧ Ext w wx)
    case first =>
      cases nb with
      | true =>
        have i1 : (1 : Int) ≤ (s.size : Int) := by
          have h1 := HNB.out
          unfold notB at h1
          by_cases h0 : s.size ≠ 0
          · omega
          · rw [decide_eq_false h0, Bool.false_and] at h1
            cases h1
        have hh : Hid (hdS s = s.extract 1 s.size) := Lib.hid (by
          unfold hdS
          rw [← HNB.out, if_pos rfl]
          rfl)
        go_wp2_with fail
        go_meet
        exact ⟨by rw [hh.out], hx1⟩
      | false =>
        have hh : Hid (hdS s = s) := Lib.hid (by
          unfold hdS
          rw [← HNB.out, if_neg (by decide)])
        go_wp2_with fail
        go_meet
        exact ⟨by rw [hh.out], hx1⟩
    case rest =>
      rename World => wm
      obtain ⟨rfl, hx2⟩ := hcut
      have htz := hdS_size s
      generalize hdS s = t0 at *
      have ht0 : t0.size ≤ 100000 := by omega
      have hmm := @run_makeMap Tryd.prog
      go_wp2_with fail
      clear hmm
      have hm0 : MapF (wm.alloc (.map #[] 0)) Tryd.prog 5 wm.heap.size 0 (bsF (fun _ => false)) := by
        rw [bsF_none]
        exact mapF_made wm _ _
      have hmb : w.heap.size ≤ wm.heap.size := hx2.size
      have hx3 : Ext w (wm.alloc (.map #[] 0)) := hx2.alloc _
      have KB := Lib.hid (int_keyed Tryd.underlying5 : Keyed Tryd.prog 5)
      go_loopw [0, 7] (fun v k wr => ∃ (f j : Nat) (g : Int → Bool) (t : ByteArray) (n : Nat), v = .string t ∧ k = .int .i64 (j : Int) ∧ setL f (decide (j = 0)) g t = R ∧ t.size < f ∧ j + t.size ≤ t0.size ∧ MapF wr Tryd.prog 5 wm.heap.size n (bsF g) ∧ n + 256 * t.size ≤ 256 * t0.size ∧ Ext w wr) (fun v _ _ => lenOf v)
      case atStart => exact ⟨t0.size + 1, 0, _, t0, 0, rfl, rfl, by rw [HRE.out]; rfl, Nat.lt_succ_self _, by omega, hm0, by omega, hx3⟩
      case round =>
        obtain ⟨f, j, g, t, n, rfl, rfl, k4, k5, k6, hM, k7, hE⟩ := hrel
        obtain ⟨f, rfl⟩ : ∃ e, f = e + 1 := ⟨f - 1, by omega⟩
        have HM := Lib.hid hM
        have HR := Lib.hid k4
        have e1 := gl_emp t
        have gt := get_bt t
        clear hM k4 hm0
        by_cases hz : t.size = 0
        · rw [decide_eq_true hz] at e1
          have hN : Hid (R = none) := Lib.hid (by rw [← HR.out]; exact setL_bad (fun h => h.1 hz) (if_pos (.inl hz)))
          clear hz
          go_wp2_with fail
          go_ret3
          exact ⟨_, _, false, rfl, hE, .inl ⟨by rw [hSV.out, hN.out]; rfl, rfl, rfl, rfl⟩⟩
        · rw [decide_eq_false hz] at e1
          have z0 : 0 < t.size := by omega
          have i0 : (0 : Int) < (t.size : Int) := by omega
          have i1 : (1 : Int) ≤ (t.size : Int) := by omega
          by_cases hb : bt t 0 = 93 ∧ 0 < j
          · have q1 : (bt t 0 == 93) = true := by rw [hb.1]; rfl
            have q2 : decide ((0 : Int) < (j : Int)) = true := decide_eq_true (by omega)
            have p2 : 0 < j := hb.2
            have hRg : Hid (R = some (g, suf t 1)) := Lib.hid (by rw [← HR.out, setL_end ⟨hz, hb.1, decide_eq_false (by omega)⟩])
            have hmm := @run_makeMap Tryd.prog
            clear hb HR
            go_wp2_with fail
            clear hmm
            have ho0 : MapF (wr.alloc (.map #[] 0)) Tryd.prog 5 wr.heap.size 0 (bsF (mixO nb g ((0 : Nat) : Int))) := by
              rw [show ((0 : Nat) : Int) = 0 from rfl, mixO_zero]
              exact mapF_made wr _ _
            have hI0 := HM.out.alloc (.map #[] 0)
            have hmo : w.heap.size ≤ wr.heap.size := hE.size
            have hne : wm.heap.size ≠ wr.heap.size := by have := HM.out.lt; omega
            go_loopw [80] (fun v wq => ∃ (c q : Nat), c ≤ 256 ∧ v = .int .i64 (c : Int) ∧ q ≤ c ∧ MapF wq Tryd.prog 5 wm.heap.size n (bsF g) ∧ MapF wq Tryd.prog 5 wr.heap.size q (bsF (mixO nb g (c : Int))) ∧ Ext w wq) (fun v _ => 256 - (intOf v).toNat)
            case atStart => exact ⟨0, 0, by omega, rfl, Nat.le_refl _, hI0, ho0, hE.alloc _⟩
            case round =>
              rename World => wq
              obtain ⟨c, q, hc, rfl, hq, hI, hO, hE2⟩ := hrel
              have HI := Lib.hid hI
              have HO := Lib.hid hO
              clear hI hO ho0 hI0
              by_cases hlt : c < 256
              · have q9 : decide ((c : Int) < 256) = true := decide_eq_true (by omega)
                have i9 : (c : Int) < 256 := by omega
                have hfn : Hid (finS nb g (c : Int) = ((g (c : Int) != nb) && !((c : Int) == 47))) := Lib.hid rfl
                by_cases h47 : (c : Int) = 47
                · have q5 : ((c : Int) != 47) = false := by rw [h47]; rfl
                  have hv : Hid (finS nb g (c : Int) = false) := Lib.hid (by rw [hfn.out, h47]; simp)
                  have HO2 : Hid (MapF wq Tryd.prog 5 wr.heap.size q (bsF (mixO nb g ((c + 1 : Nat) : Int)))) := Lib.hid (by rw [← mixO_no hv.out]; exact HO.out)
                  have H47 := Lib.hid h47
                  clear h47
                  go_wp2_with fail
                  go_roundw
                  case rel => exact ⟨c + 1, q, hlt, by go_num, by omega, HI.out, HO2.out, hE2⟩
                  case measure => simp [intOf]; omega
                · have q5 : ((c : Int) != 47) = true := by simpa using h47
                  have h47b : ((c : Int) == 47) = false := by simpa using h47
                  have hlk : (Instr.lookup 40 (.map (some wm.heap.size)) (.int .u8 (c : Int)) false).run Tryd.prog wq = .ok (.bool (g (c : Int))) wq := by
                    rw [run_lookupF KB.out Tryd.underlying40 (z := .bool false) (by first | exact Tryd.zeroValue4 _ | kernel_rfl | rfl) HI.out (keyB c hlt), bsF_get g hlt]
                  cases q6 : (g (c : Int) != nb) with
                  | true =>
                    have p6 : ¬ g (c : Int) = nb := by simpa using q6
                    have r6 : (!(g (c : Int) == nb)) = true := q6
                    have hv : Hid (finS nb g (c : Int) = true) := Lib.hid (by rw [hfn.out, q6, h47b]; rfl)
                    go_wp2_with (refine wpList_updateF _ rfl _ _ _ 40 rfl 5 4 KB.out Tryd.underlying40 wr.heap.size q (bsF (mixO nb g (c : Int))) rfl HO.out (by unfold maxLen; omega) (.int .u8 (c : Int)) (.bool true) (.int .u8 (c : Int)) rfl rfl (keyB c hlt) ?_; intro w9 hO9 hg9)
                    rw [bsF_set _ hlt, mixO_yes hv.out] at hO9
                    have hq9 : (if (bsF (mixO nb g (c : Int)) (.int .u8 (c : Int))).isSome = true then q else q + 1) ≤ c + 1 := by split <;> omega
                    have HO9 := Lib.hid hO9
                    have hI9 := HI.out.kept hg9 (by simpa using hne)
                    have hE9 : Ext w w9 := hE2.ofGrown hg9 (fun k e => by cases e; exact hmo)
                    clear hO9 hg9
                    go_wp2_with fail
                    go_roundw
                    case rel => exact ⟨c + 1, _, hlt, by go_num, hq9, hI9, HO9.out, hE9⟩
                    case measure => simp [intOf]; omega
                  | false =>
                    have p6 : g (c : Int) = nb := by simpa using q6
                    have r6 : (!(g (c : Int) == nb)) = false := q6
                    have hv : Hid (finS nb g (c : Int) = false) := Lib.hid (by rw [hfn.out, q6]; rfl)
                    have HO2 : Hid (MapF wq Tryd.prog 5 wr.heap.size q (bsF (mixO nb g ((c + 1 : Nat) : Int)))) := Lib.hid (by rw [← mixO_no hv.out]; exact HO.out)
                    go_wp2_with fail
                    go_roundw
                    case rel => exact ⟨c + 1, q, hlt, by go_num, by omega, HI.out, HO2.out, hE2⟩
                    case measure => simp [intOf]; omega
              · have hc6 : c = 256 := by omega
                subst hc6
                have HO2 : Hid (MapF wq Tryd.prog 5 wr.heap.size q (bsF (finS nb g))) := Lib.hid (by rw [← mixO_all]; exact HO.out)
                clear HO
                go_wp2_with fail
                refine wp_region_det (Stood _) (by kernel_rfl) (by kernel_rfl) (Stood.start _) ?_
                repeat (first
                  | (refine det_skip (by rfl) ?_; simp only [Act.put, List.setIfInBounds_toArray, List.set_cons_zero, List.set_cons_succ])
                  | (refine det_op (v := ?_) rfl (by rfl) (fun w' hS => ?_) ?_; rotate_left; (focus (obtain ⟨hcl, hxt⟩ := hS; go_wp2_with (fail); (first | refine ⟨?_, rfl, hcl, hxt⟩ | refine ⟨?_, rfl, Stood.of (hxt.trans (by assumption))⟩); (first | (simp only [List.getElem?_toArray, List.getElem?_cons_succ, List.getElem?_cons_zero]; rfl) | rfl))); simp only [Act.put, List.setIfInBounds_toArray, List.set_cons_zero, List.set_cons_succ]))
                refine det_end ?_
                intro w9 hS
                have hx9 := hS.2
                clear hS
                go_wp2_with fail
                go_ret3
                exact ⟨_, _, true, rfl, hE2.trans hx9, .inr ⟨finS nb g, wr.heap.size, q, by rw [hSV.out, hRg.out]; rfl, rfl, rfl, hmo, hq, HO2.out.ext hx9⟩⟩
          · have hns : Hid (¬ (t.size ≠ 0 ∧ bt t 0 = 93 ∧ decide (j = 0) = false)) := Lib.hid (fun h => hb ⟨h.2.1, by have := of_decide_eq_false h.2.2; omega⟩)
            go_upto_region 9 with fail
            go_cut [35] (fun v wx => v = .bool false ∧ wx = wr)
            case first =>
              by_cases h93 : bt t 0 = 93
              · have q1 : (bt t 0 == 93) = true := by rw [h93]; rfl
                have p2 : ¬ 0 < j := fun h => hb ⟨h93, h⟩
                have q2 : decide ((0 : Int) < (j : Int)) = false := decide_eq_false (by omega)
                clear hb h93
                go_wp2_with fail
                go_meet
                exact ⟨rfl, rfl⟩
              · have q1 : (bt t 0 == 93) = false := by simpa using h93
                clear hb h93
                go_wp2_with fail
                go_meet
                exact ⟨rfl, rfl⟩
            case rest =>
              obtain ⟨rfl, hw9⟩ := hcut
              rw [hw9]
              clear hw9 hb
              have CL := Lib.hid (fun w => glLetter_any t (by omega) w)
              cases hl : letV t with
              | none =>
                rw [hl] at CL
                have hN : Hid (R = none) := Lib.hid (by rw [← HR.out]; exact setL_bad hns.out hl)
                unfold letR at CL
                clear hl
                go_wp2_with fail
                refine (CL.out _).mono ?_; rintro x w5 ⟨rfl, hx5⟩
                go_wp2_with fail
                go_ret3
                exact ⟨_, _, false, rfl, hE.trans hx5, .inl ⟨by rw [hSV.out, hN.out]; rfl, rfl, rfl, rfl⟩⟩
              | some p =>
                obtain ⟨a, r⟩ := p
                rw [hl] at CL
                unfold letR at CL
                have hlr : r.size < t.size ∧ 0 ≤ a ∧ a ≤ 255 := by
                  have h := letV_rest hl
                  exact ⟨h.1, h.2.1, h.2.2.1⟩
                obtain ⟨d2, d0, d1⟩ := hlr
                obtain ⟨lo, rfl⟩ : ∃ m : Nat, a = (m : Int) := ⟨a.toNat, by omega⟩
                have HL := Lib.hid hl
                have er := gl_emp r
                have gr := get_bt r
                clear hl
                go_upto_region 14 with ((with_reducible refine (CL.out _).mono ?_); rintro x w5 ⟨rfl, hx5⟩)
                have hE5 := hE.trans hx5
                have HM5 := Lib.hid (HM.out.ext hx5)
                clear HM CL
                go_cut [57] (fun v wx => v = .bool (rangedB r) ∧ wx = w5)
                case first =>
                  have hv : Hid (rangedB r = (decide (1 < r.size) && (bt r 0 == 45) && !(bt r 1 == 93))) := Lib.hid rfl
                  by_cases r1 : 1 < r.size
                  · have q1 : decide ((1 : Int) < (r.size : Int)) = true := decide_eq_true (by omega)
                    have i2 : (1 : Int) < (r.size : Int) := by omega
                    have i3 : (0 : Int) < (r.size : Int) := by omega
                    have z2 : 0 < r.size := by omega
                    have hv2 : Hid (rangedB r = ((bt r 0 == 45) && !(bt r 1 == 93))) := Lib.hid (by rw [hv.out, decide_eq_true r1, Bool.true_and])
                    cases q2 : bt r 0 == 45 with
                    | true =>
                      rw [q2] at hv2
                      go_wp2_with fail
                      go_meet
                      exact ⟨by rw [hv2.out]; rfl, rfl⟩
                    | false =>
                      rw [q2] at hv2
                      go_wp2_with fail
                      go_meet
                      exact ⟨by rw [hv2.out]; rfl, rfl⟩
                  · have q1 : decide ((1 : Int) < (r.size : Int)) = false := decide_eq_false (by omega)
                    have hv2 : Hid (rangedB r = false) := Lib.hid (by rw [hv.out, decide_eq_false r1, Bool.false_and, Bool.false_and])
                    go_wp2_with fail
                    go_meet
                    exact ⟨by rw [hv2.out], rfl⟩
                case rest =>
                  obtain ⟨rfl, hw9⟩ := hcut
                  rw [hw9]
                  clear hw9
                  go_upto_if 57 with fail
                  go_cut [11, 9, 10] (fun b rr okv wx => ∃ (high : Nat) (q : ByteArray), b = .int .u8 (high : Int) ∧ high ≤ 255 ∧ rr = .string q ∧ q.size ≤ r.size ∧ okv = .bool true ∧ R = setL f false (addR g (lo : Int) (high : Int)) q ∧ Ext w5 wx)
                  case first =>
                    cases hrg : rangedB r with
                    | true =>
                      have i4 : (1 : Int) ≤ (r.size : Int) := by
                        have h := hrg
                        unfold rangedB at h
                        by_cases hh : 1 < r.size
                        · omega
                        · rw [decide_eq_false hh, Bool.false_and, Bool.false_and] at h
                          cases h
                      have CL2 := Lib.hid (fun w => glLetter_any (r.extract 1 r.size) (by rw [ByteArray.size_extract]; omega) w)
                      have e2 : r.extract 1 r.size = suf r 1 := rfl
                      have E2 := Lib.hid e2
                      clear e2
                      cases hl2 : letV (r.extract 1 r.size) with
                      | none =>
                        rw [hl2] at CL2
                        have hN : Hid (R = none) := Lib.hid (by rw [← HR.out, setL_half hns.out HL.out hrg (by rw [← E2.out]; exact hl2)])
                        unfold letR at CL2
                        clear hl2
                        go_wp2_with fail
                        refine (CL2.out _).mono ?_; rintro x w6 ⟨rfl, hx6⟩
                        go_wp2_with fail
                        go_ret3
                        exact ⟨_, _, false, rfl, hE5.trans hx6, .inl ⟨by rw [hSV.out, hN.out]; rfl, rfl, rfl, rfl⟩⟩
                      | some p =>
                        obtain ⟨b, q⟩ := p
                        rw [hl2] at CL2
                        have hN0 : Hid (R = setL f false (addR g (lo : Int) b) q) := Lib.hid (by rw [← HR.out, setL_two hns.out HL.out hrg (by rw [← E2.out]; exact hl2)])
                        have hq : q.size ≤ r.size ∧ 0 ≤ b ∧ b ≤ 255 := by
                          have h := letV_rest hl2
                          have h1 := h.1
                          rw [ByteArray.size_extract] at h1
                          exact ⟨by omega, h.2.1, h.2.2.1⟩
                        obtain ⟨g2, g0, g1⟩ := hq
                        obtain ⟨high, rfl⟩ : ∃ m : Nat, b = (m : Int) := ⟨b.toNat, by omega⟩
                        unfold letR at CL2
                        clear hl2
                        go_wp2_with fail
                        refine (CL2.out _).mono ?_; rintro x w6 ⟨rfl, hx6⟩
                        go_wp2_with fail
                        go_meet
                        exact ⟨high, q, rfl, by omega, rfl, g2, rfl, hN0.out, hx6⟩
                    | false =>
                      have hN : Hid (R = setL f false (addR g (lo : Int) (lo : Int)) r) := Lib.hid (by rw [← HR.out, setL_one hns.out HL.out hrg])
                      go_wp2_with fail
                      go_meet
                      exact ⟨lo, r, rfl, by omega, rfl, Nat.le_refl _, rfl, hN.out, Ext.refl _⟩
                  case rest =>
                    obtain ⟨high, q, rfl, m1, rfl, m2, rfl, hR8, hx6⟩ := hcut
                    have HR8 := Lib.hid hR8
                    have hE6 := hE5.trans hx6
                    have HM6 := Lib.hid (HM5.out.ext hx6)
                    clear hR8 HR HM5 HL hns er gr e1 gt
                    go_wp2_with fail
                    go_loopw [12] (fun v wq => ∃ (c e : Nat), v = .int .i64 (c : Int) ∧ lo ≤ c ∧ (c ≤ high + 1 ∨ c = lo) ∧ e ≤ n + (c - lo) ∧ MapF wq Tryd.prog 5 wm.heap.size e (bsF (addR g (lo : Int) ((c : Int) - 1))) ∧ Ext w wq) (fun v _ => high + 1 - (intOf v).toNat)
                    case atStart => exact ⟨lo, n, rfl, Nat.le_refl _, .inr rfl, by omega, by rw [addR_none]; exact HM6.out, hE6⟩
                    case round =>
                      rename World => wq
                      obtain ⟨c, e, rfl, n1, n2, n3, hM9, hE9⟩ := hrel
                      have HM9 := Lib.hid hM9
                      clear hM9
                      by_cases hch : c ≤ high
                      · have q9 : decide ((c : Int) ≤ (high : Int)) = true := decide_eq_true (by omega)
                        have i9 : (c : Int) < 256 := by omega
                        have hc9 : c < 256 := by omega
                        have hst := Lib.hid (addR_step g n1)
                        go_wp2_with (refine wpList_updateF _ rfl _ _ _ 40 rfl 5 4 KB.out Tryd.underlying40 wm.heap.size e (bsF (addR g (lo : Int) ((c : Int) - 1))) rfl HM9.out (by unfold maxLen; omega) (.int .u8 (c : Int)) (.bool true) (.int .u8 (c : Int)) rfl rfl (keyB c hc9) ?_; intro w10 hM10 hg10)
                        rw [bsF_set _ hc9, hst.out] at hM10
                        have he : (if (bsF (addR g (lo : Int) ((c : Int) - 1)) (.int .u8 (c : Int))).isSome = true then e else e + 1) ≤ n + (c + 1 - lo) := by split <;> omega
                        have HM10 := Lib.hid hM10
                        have hE10 : Ext w w10 := hE9.ofGrown hg10 (fun k e => by cases e; exact hmb)
                        clear hM10 hg10
                        go_wp2_with fail
                        go_roundw
                        case rel => exact ⟨c + 1, _, by go_num, by omega, .inl (by omega), he, HM10.out, hE10⟩
                        case measure => simp [intOf]; omega
                      · have q9 : decide ((c : Int) ≤ (high : Int)) = false := decide_eq_false (by omega)
                        have HM10 : Hid (MapF wq Tryd.prog 5 wm.heap.size e (bsF (addR g (lo : Int) (high : Int)))) := Lib.hid (by rw [← addR_past g (show high < c by omega) n2]; exact HM9.out)
                        go_wp2_with fail
                        go_roundw
                        case rel => exact ⟨f, j + 1, _, q, e, rfl, by go_num, by rw [decide_eq_false (by omega)]; exact HR8.out.symm, by omega, by omega, HM10.out, by omega, hE9⟩
                        case measure => simp [lenOf]; omega
end Go.Proofs.YtnnoeckmkjhdbaaDoor
