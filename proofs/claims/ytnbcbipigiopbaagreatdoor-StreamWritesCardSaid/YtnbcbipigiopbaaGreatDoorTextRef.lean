/-
  The reference's TimeText.
-/
import Derived.Test.YtnbcbipigiopbaaGreatDoorText
namespace Go.Proofs.YtnbcbipigiopbaaGreatDoor
open Go.RowKit

/-- A text's length. -/
def szT : Value → Nat
  | .string t => t.size
  | _ => 0
theorem hasSuf_zero (l : List UInt8) : Lib.hasSuffix (l ++ [48]) [48] = true := by
  unfold Lib.hasSuffix
  simp
theorem suf_split {t : ByteArray} (h : Lib.hasSuffix t.data.toList [48] = true) : ∃ l : List UInt8, t.data.toList = l ++ [48] := by
  unfold Lib.hasSuffix at h
  simp at h
  obtain ⟨l, hl⟩ := h
  exact ⟨l, hl.symm⟩
theorem suf_not {t : ByteArray} (h : Lib.hasSuffix t.data.toList [48] = false) : trimZ t.data.toList = t.data.toList := by
  refine trimZ_stop fun x hx => ?_
  rintro rfl
  rcases List.eq_nil_or_concat t.data.toList with e | ⟨l, y, e⟩
  · rw [e] at hx; cases hx
  · rw [e] at hx h
    simp at hx
    subst hx
    rw [List.concat_eq_append, hasSuf_zero] at h
    cases h
theorem suf_cut {t : ByteArray} (h : Lib.hasSuffix t.data.toList [48] = true) : 0 < t.size ∧ (t.extract 0 (t.size - 1)).size = t.size - 1 ∧ trimZ (t.extract 0 (t.size - 1)).data.toList = trimZ t.data.toList := by
  obtain ⟨l, hl⟩ := suf_split h
  have hsz : t.size = l.length + 1 := by
    have := congrArg List.length hl
    simp at this
    exact this
  refine ⟨by omega, by rw [ByteArray.size_extract]; omega, ?_⟩
  have e : (t.extract 0 (t.size - 1)).data.toList = l := by
    rw [ByteArray.data_extract, Array.toList_extract, List.extract_eq_take_drop, hl, hsz]
    simp
  rw [e, hl, trimZ_step]
/-- The nine digits of a part, but for the zeros ahead. -/
theorem nine_of (p : Int) (h0 : 0 ≤ p) (h1 : p < 1000000000) : ∃ t : ByteArray, t = ⟨(Lib.itoa p).toArray⟩ ∧ List.replicate (9 - t.size) 48 ++ t.data.toList = pad9 p.toNat ∧ t.size ≤ 9 := by
  obtain ⟨k, rfl⟩ := Int.eq_ofNat_of_zero_le h0
  have e := dec_zeros k (by omega)
  have hl : (Lib.decDigits k).length ≤ 9 := by
    have := nDigits_le 8 k (by simp only [Nat.reducePow, Nat.reduceAdd]; omega)
    rw [Lib.decDigits_length]; exact this
  have hsz : (⟨(Lib.decDigits k).toArray⟩ : ByteArray).size = (Lib.decDigits k).length := by
    show (Lib.decDigits k).toArray.size = _
    simp
  refine ⟨_, rfl, ?_, ?_⟩
  · rw [Lib.itoa_nonneg, hsz]
    exact e
  · rw [Lib.itoa_nonneg, hsz]
    exact hl
theorem pad_step {t : ByteArray} {l : List UInt8} (h : t.size < 9) (hr : List.replicate (9 - t.size) 48 ++ t.data.toList = l) :
    Hid (List.replicate (9 - ((⟨#[48]⟩ : ByteArray) ++ t).size) 48 ++ ((⟨#[48]⟩ : ByteArray) ++ t).data.toList = l) := Lib.hid (by
  have hsz : ((⟨#[48]⟩ : ByteArray) ++ t).size = t.size + 1 := by rw [ByteArray.size_append]; show 1 + t.size = _; omega
  have hd : ((⟨#[48]⟩ : ByteArray) ++ t).data.toList = 48 :: t.data.toList := by simp
  rw [hsz, hd, ← hr, show 9 - t.size = (9 - (t.size + 1)) + 1 by omega, List.replicate_succ']
  simp)
theorem tail_cases {P : Int} {v : ByteArray} (h0 : 0 ≤ P) (h1 : P < 1000000000) (hv : v.data.toList = trimZ (pad9 P.toNat)) :
    (v.toList.isEmpty = true ∧ (!v.toList.isEmpty) = false ∧ tailT P = v) ∨ (v.toList.isEmpty = false ∧ (!v.toList.isEmpty) = true ∧ tailT P = ⟨#[46]⟩ ++ v) := by
  rw [ByteArray.toList_eq]
  have ev : v = ⟨(trimZ (pad9 P.toNat)).toArray⟩ := ByteArray.ext (by rw [← hv])
  by_cases hp : 0 < P
  · right
    have hne := trimZ_pos P.toNat (by omega) (by omega)
    rw [← hv] at hne
    have h2 : v.data.toList.isEmpty = false := by simpa using hne
    refine ⟨h2, by rw [h2]; rfl, ?_⟩
    unfold tailT
    rw [if_pos hp, ← ev]
  · left
    obtain rfl : P = 0 := by omega
    have hz : v.data.toList = [] := by rw [hv]; exact trimZ_zero
    refine ⟨by rw [hz]; rfl, by rw [hz]; rfl, ?_⟩
    unfold tailT
    rw [if_neg hp]
    refine ByteArray.ext ?_
    rw [← Array.toList_inj, hz]
-- the walk, written by textref.py
set_option maxHeartbeats 8000000 in
set_option maxRecDepth 100000 in
theorem refText_any (ts tn : Int) (w : World) (ht : HasPow w) : Calls Tryz.prog 82 #[.agg #[.int .i64 ts, .int .i64 tn]] w fun e w' => e = .returned (.tuple #[.string (textV ts tn), .int .i64 (textE ts tn)]) ∧ Ext w w' := by
  have c1 := fun w => timeRight_any ts tn w
  cases hb : timeB ts tn with
  | false =>
    have ev : Hid (textV ts tn = ⟨#[]⟩ ∧ textE ts tn = 1) := Lib.hid (by unfold textV textE; rw [hb]; exact ⟨rfl, rfl⟩)
    rw [hb] at c1
    have C1 := Lib.hid c1
    clear c1 hb
    go_enter Tryz.func82, Tryz.ntmps82
    go_wp2_with fail
    refine (C1.out _).mono ?_; rintro e w1 ⟨rfl, hx1⟩
    go_wp2_with fail
    go_ret2
    exact ⟨ret_val (by rw [ev.out.1, ev.out.2]; rfl), Ext.trans (by show Below _ _ _; repeat' (first | (with_reducible exact Below.refl _ _) | (with_reducible assumption) | (with_reducible refine belowDrewN ?_ _) | (with_reducible refine Below.alloc ?_ ?_ _) | (with_reducible refine Below.drew ?_) | (with_reducible refine Below.setCell ?_ ?_ _) | go_size)) hx1⟩
  | true =>
    have ev : Hid (textV ts tn = signT ts ++ ⟨(Lib.itoa (wholeT ts tn)).toArray⟩ ++ tailT (partT ts tn) ∧ textE ts tn = 0) := Lib.hid (by unfold textV textE; rw [hb]; exact ⟨rfl, rfl⟩)
    obtain ⟨b1, b2, b3, b4⟩ := timeB_rng hb
    rw [hb] at c1
    have C1 := Lib.hid c1
    clear c1 hb
    have hx0 : Ext w (w.alloc (.cells #[.int .i64 ts, .int .i64 tn] 23)) := (Ext.refl w).alloc _
    have hcells : ∀ W : World, Ext (w.alloc (.cells #[.int .i64 ts, .int .i64 tn] 23)) W → W.cell? ⟨w.heap.size, 0, none⟩ = some (.int .i64 ts) ∧ W.cell? ⟨w.heap.size, 1, none⟩ = some (.int .i64 tn) ∧ w.heap.size < W.heap.size := fun W hW => by
      have h1 := hW.cell (show (w.alloc (.cells #[.int .i64 ts, .int .i64 tn] 23)).cell? ⟨w.heap.size, 0, none⟩ = some (.int .i64 ts) by simp)
      have h2 := hW.cell (show (w.alloc (.cells #[.int .i64 ts, .int .i64 tn] 23)).cell? ⟨w.heap.size, 1, none⟩ = some (.int .i64 tn) by simp)
      exact ⟨h1, h2, World.block_lt_of_cell? W _ h1⟩
    have Hcells := Lib.hid hcells
    clear hcells
    by_cases hs : ts < 0
    · have q1 : decide (ts < 0) = true := decide_eq_true hs
      by_cases hn : 0 < tn
      · have q2 : decide (0 < tn) = true := decide_eq_true hn
        have C2 := Lib.hid (fun w ht => itoa_any (-ts - 1) (by omega) (by omega) w ht)
        have C3 := Lib.hid (fun w ht => itoa_any (1000000000 - tn) (by omega) (by omega) w ht)
        have hz2 := itoa_size (-ts - 1) (by omega) (by omega)
        obtain ⟨t0, ht0, hpad, ht9⟩ := nine_of (1000000000 - tn) (by omega) (by omega)
        rw [← ht0] at C3
        have Hpad := Lib.hid hpad
        have hP0 : 0 ≤ 1000000000 - tn := by omega
        have hP1 : 1000000000 - tn < 1000000000 := by omega
        have efin : Hid (signT ts ++ ⟨(Lib.itoa (wholeT ts tn)).toArray⟩ ++ tailT (partT ts tn) = ⟨#[45]⟩ ++ ⟨(Lib.itoa (-ts - 1)).toArray⟩ ++ tailT (1000000000 - tn)) := Lib.hid (by
          have p1 : partT ts tn = 1000000000 - tn := by unfold partT; exact if_pos ⟨hs, hn⟩
          have p2 : wholeT ts tn = -ts - 1 := by unfold wholeT; rw [if_pos hs, if_pos hn]
          rw [p1, p2]
          unfold signT
          rw [if_pos hs])
        generalize (⟨(Lib.itoa (-ts - 1)).toArray⟩ : ByteArray) = a at *
        clear hpad ht0 hs hn
        go_enter Tryz.func82, Tryz.ntmps82
        go_wp2_with fail
        refine (C1.out _).mono ?_; rintro e w1 ⟨rfl, hx1⟩
        obtain ⟨g1, g2, g3⟩ := Hcells.out w1 hx1
        go_wp2_with fail
        refine wp_region_det (Stood _) (by kernel_rfl) (by kernel_rfl) (Stood.start _) ?_
        repeat (first
          | (refine det_skip (by rfl) ?_; simp only [Act.put, List.setIfInBounds_toArray, List.set_cons_zero, List.set_cons_succ])
          | (refine det_op (v := ?_) rfl (by rfl) (fun w' hS => ?_) ?_; rotate_left; (focus (obtain ⟨hcl, hxt⟩ := hS; go_wp2_with (fail); (first | refine ⟨?_, rfl, hcl, hxt⟩ | refine ⟨?_, rfl, Stood.of (hxt.trans (by assumption))⟩); (first | (simp only [List.getElem?_toArray, List.getElem?_cons_succ, List.getElem?_cons_zero]; rfl) | rfl))); simp only [Act.put, List.setIfInBounds_toArray, List.set_cons_zero, List.set_cons_succ]))
        refine det_end ?_
        intro w2 hS
        have hx2 := hS.2
        clear hS
        have hy2 := hx0.trans (hx1.trans hx2)
        go_wp2_with fail
        refine (C3.out _ (ht.ext hy2)).mono ?_; rintro e w3 ⟨rfl, hx3⟩
        have hy3 := hy2.trans hx3
        go_wp2_with fail
        go_loop [7] (fun u => ∃ t : ByteArray, u = .string t ∧ t.size ≤ 9 ∧ Hid (List.replicate (9 - t.size) 48 ++ t.data.toList = pad9 (1000000000 - tn).toNat)) (fun u => 9 - szT u)
        case atStart => exact ⟨t0, rfl, ht9, Hpad⟩
        case round =>
          obtain ⟨t, rfl, ht9', hrel⟩ := hrel
          by_cases hlt : t.size < 9
          · have q3 : decide ((t.size : Int) < 9) = true := decide_eq_true (by omega)
            have hst := Lib.hid (pad_step (t := t) hlt hrel.out)
            have hsz : ((⟨#[48]⟩ : ByteArray) ++ t).size = t.size + 1 := by rw [ByteArray.size_append]; show 1 + t.size = _; omega
            have Hsz := Lib.hid hsz
            clear hsz
            go_wp2_with fail
            go_round
            case rel => exact ⟨_, rfl, by rw [Hsz.out]; omega, hst.out⟩
            case measure => show 9 - ((⟨#[48]⟩ : ByteArray) ++ t).size < 9 - t.size; rw [Hsz.out]; omega
          · have q3 : decide ((t.size : Int) < 9) = false := decide_eq_false (by omega)
            have hfull : Hid (t.data.toList = pad9 (1000000000 - tn).toNat) := Lib.hid (by rw [← hrel.out, show 9 - t.size = 0 by omega]; rfl)
            clear hlt hrel
            go_wp2_with fail
            go_loop [7] (fun u => ∃ v : ByteArray, u = .string v ∧ v.size ≤ 9 ∧ Hid (trimZ v.data.toList = trimZ (pad9 (1000000000 - tn).toNat))) (fun u => szT u)
            case atStart => exact ⟨t, rfl, ht9', Lib.hid (by rw [hfull.out])⟩
            case round =>
              obtain ⟨v, rfl, hv9, hrel⟩ := hrel
              have c4 := fun w => Tryz.strings_HasSuffix v ⟨#[48]⟩ w (by omega)
              cases hsu : Lib.hasSuffix v.data.toList [48] with
              | true =>
                have e48 : Lib.hasSuffix v.data.toList (⟨#[48]⟩ : ByteArray).data.toList = true := hsu
                rw [e48] at c4
                have C4 := Lib.hid c4
                obtain ⟨hv0, hvz, hvt⟩ := suf_cut hsu
                have Hvt := Lib.hid hvt
                have Hvz := Lib.hid hvz
                have i1 : (0 : Int) ≤ (v.size : Int) - 1 := by omega
                have i2 : ((v.size : Int) - 1).toNat = v.size - 1 := by omega
                have i4 : (v.size : Int) - 1 ≤ v.size := by omega
                clear c4 e48 hsu hvt hvz
                go_wp2_with ((with_reducible refine (C4.out _).mono ?_); rintro e w' ⟨rfl, hw⟩; subst w')
                go_round
                case rel => exact ⟨_, rfl, by rw [Hvz.out]; omega, Lib.hid (by rw [Hvt.out, hrel.out])⟩
                case measure => show (v.extract 0 (v.size - 1)).size < v.size; rw [Hvz.out]; omega
              | false =>
                have e48 : Lib.hasSuffix v.data.toList (⟨#[48]⟩ : ByteArray).data.toList = false := hsu
                rw [e48] at c4
                have C4 := Lib.hid c4
                have hvt : Hid (v.data.toList = trimZ (pad9 (1000000000 - tn).toNat)) := Lib.hid (by rw [← hrel.out, suf_not hsu])
                rcases tail_cases (P := 1000000000 - tn) (by omega) (by omega) hvt.out with ⟨y1, y2, hfin⟩ | ⟨y1, y2, hfin⟩
                all_goals
                  have Hfin := Lib.hid hfin
                  clear c4 e48 hsu hfin hvt hrel
                  go_wp2_with ((with_reducible refine (C4.out _).mono ?_); rintro e w' ⟨rfl, hw⟩; subst w')
                  refine (C2.out _ (ht.ext hy3)).mono ?_; rintro e w5 ⟨rfl, hx5⟩
                  go_wp2_with fail
                  go_ret2
                  exact ⟨ret_val (by rw [ev.out.1, ev.out.2, efin.out, Hfin.out]; first | rfl | simp), hy3.trans hx5⟩
      · have q2 : decide (0 < tn) = false := decide_eq_false hn
        have C2 := Lib.hid (fun w ht => itoa_any (-ts) (by omega) (by omega) w ht)
        have C3 := Lib.hid (fun w ht => itoa_any (tn) (by omega) (by omega) w ht)
        have hz2 := itoa_size (-ts) (by omega) (by omega)
        obtain ⟨t0, ht0, hpad, ht9⟩ := nine_of (tn) (by omega) (by omega)
        rw [← ht0] at C3
        have Hpad := Lib.hid hpad
        have hP0 : 0 ≤ tn := by omega
        have hP1 : tn < 1000000000 := by omega
        have efin : Hid (signT ts ++ ⟨(Lib.itoa (wholeT ts tn)).toArray⟩ ++ tailT (partT ts tn) = ⟨#[45]⟩ ++ ⟨(Lib.itoa (-ts)).toArray⟩ ++ tailT (tn)) := Lib.hid (by
          have p1 : partT ts tn = tn := by unfold partT; exact if_neg (fun h => hn h.2)
          have p2 : wholeT ts tn = -ts := by unfold wholeT; rw [if_pos hs, if_neg hn]
          rw [p1, p2]
          unfold signT
          rw [if_pos hs])
        generalize (⟨(Lib.itoa (-ts)).toArray⟩ : ByteArray) = a at *
        clear hpad ht0 hs hn
        go_enter Tryz.func82, Tryz.ntmps82
        go_wp2_with fail
        refine (C1.out _).mono ?_; rintro e w1 ⟨rfl, hx1⟩
        obtain ⟨g1, g2, g3⟩ := Hcells.out w1 hx1
        go_wp2_with fail
        refine wp_region_det (Stood _) (by kernel_rfl) (by kernel_rfl) (Stood.start _) ?_
        repeat (first
          | (refine det_skip (by rfl) ?_; simp only [Act.put, List.setIfInBounds_toArray, List.set_cons_zero, List.set_cons_succ])
          | (refine det_op (v := ?_) rfl (by rfl) (fun w' hS => ?_) ?_; rotate_left; (focus (obtain ⟨hcl, hxt⟩ := hS; go_wp2_with (fail); (first | refine ⟨?_, rfl, hcl, hxt⟩ | refine ⟨?_, rfl, Stood.of (hxt.trans (by assumption))⟩); (first | (simp only [List.getElem?_toArray, List.getElem?_cons_succ, List.getElem?_cons_zero]; rfl) | rfl))); simp only [Act.put, List.setIfInBounds_toArray, List.set_cons_zero, List.set_cons_succ]))
        refine det_end ?_
        intro w2 hS
        have hx2 := hS.2
        clear hS
        have hy2 := hx0.trans (hx1.trans hx2)
        go_wp2_with fail
        refine (C3.out _ (ht.ext hy2)).mono ?_; rintro e w3 ⟨rfl, hx3⟩
        have hy3 := hy2.trans hx3
        go_wp2_with fail
        go_loop [7] (fun u => ∃ t : ByteArray, u = .string t ∧ t.size ≤ 9 ∧ Hid (List.replicate (9 - t.size) 48 ++ t.data.toList = pad9 (tn).toNat)) (fun u => 9 - szT u)
        case atStart => exact ⟨t0, rfl, ht9, Hpad⟩
        case round =>
          obtain ⟨t, rfl, ht9', hrel⟩ := hrel
          by_cases hlt : t.size < 9
          · have q3 : decide ((t.size : Int) < 9) = true := decide_eq_true (by omega)
            have hst := Lib.hid (pad_step (t := t) hlt hrel.out)
            have hsz : ((⟨#[48]⟩ : ByteArray) ++ t).size = t.size + 1 := by rw [ByteArray.size_append]; show 1 + t.size = _; omega
            have Hsz := Lib.hid hsz
            clear hsz
            go_wp2_with fail
            go_round
            case rel => exact ⟨_, rfl, by rw [Hsz.out]; omega, hst.out⟩
            case measure => show 9 - ((⟨#[48]⟩ : ByteArray) ++ t).size < 9 - t.size; rw [Hsz.out]; omega
          · have q3 : decide ((t.size : Int) < 9) = false := decide_eq_false (by omega)
            have hfull : Hid (t.data.toList = pad9 (tn).toNat) := Lib.hid (by rw [← hrel.out, show 9 - t.size = 0 by omega]; rfl)
            clear hlt hrel
            go_wp2_with fail
            go_loop [7] (fun u => ∃ v : ByteArray, u = .string v ∧ v.size ≤ 9 ∧ Hid (trimZ v.data.toList = trimZ (pad9 (tn).toNat))) (fun u => szT u)
            case atStart => exact ⟨t, rfl, ht9', Lib.hid (by rw [hfull.out])⟩
            case round =>
              obtain ⟨v, rfl, hv9, hrel⟩ := hrel
              have c4 := fun w => Tryz.strings_HasSuffix v ⟨#[48]⟩ w (by omega)
              cases hsu : Lib.hasSuffix v.data.toList [48] with
              | true =>
                have e48 : Lib.hasSuffix v.data.toList (⟨#[48]⟩ : ByteArray).data.toList = true := hsu
                rw [e48] at c4
                have C4 := Lib.hid c4
                obtain ⟨hv0, hvz, hvt⟩ := suf_cut hsu
                have Hvt := Lib.hid hvt
                have Hvz := Lib.hid hvz
                have i1 : (0 : Int) ≤ (v.size : Int) - 1 := by omega
                have i2 : ((v.size : Int) - 1).toNat = v.size - 1 := by omega
                have i4 : (v.size : Int) - 1 ≤ v.size := by omega
                clear c4 e48 hsu hvt hvz
                go_wp2_with ((with_reducible refine (C4.out _).mono ?_); rintro e w' ⟨rfl, hw⟩; subst w')
                go_round
                case rel => exact ⟨_, rfl, by rw [Hvz.out]; omega, Lib.hid (by rw [Hvt.out, hrel.out])⟩
                case measure => show (v.extract 0 (v.size - 1)).size < v.size; rw [Hvz.out]; omega
              | false =>
                have e48 : Lib.hasSuffix v.data.toList (⟨#[48]⟩ : ByteArray).data.toList = false := hsu
                rw [e48] at c4
                have C4 := Lib.hid c4
                have hvt : Hid (v.data.toList = trimZ (pad9 (tn).toNat)) := Lib.hid (by rw [← hrel.out, suf_not hsu])
                rcases tail_cases (P := tn) (by omega) (by omega) hvt.out with ⟨y1, y2, hfin⟩ | ⟨y1, y2, hfin⟩
                all_goals
                  have Hfin := Lib.hid hfin
                  clear c4 e48 hsu hfin hvt hrel
                  go_wp2_with ((with_reducible refine (C4.out _).mono ?_); rintro e w' ⟨rfl, hw⟩; subst w')
                  refine (C2.out _ (ht.ext hy3)).mono ?_; rintro e w5 ⟨rfl, hx5⟩
                  go_wp2_with fail
                  go_ret2
                  exact ⟨ret_val (by rw [ev.out.1, ev.out.2, efin.out, Hfin.out]; first | rfl | simp), hy3.trans hx5⟩
    · have q1 : decide (ts < 0) = false := decide_eq_false hs
      have hn : True := trivial
      have C2 := Lib.hid (fun w ht => itoa_any (ts) (by omega) (by omega) w ht)
      have C3 := Lib.hid (fun w ht => itoa_any (tn) (by omega) (by omega) w ht)
      have hz2 := itoa_size (ts) (by omega) (by omega)
      obtain ⟨t0, ht0, hpad, ht9⟩ := nine_of (tn) (by omega) (by omega)
      rw [← ht0] at C3
      have Hpad := Lib.hid hpad
      have hP0 : 0 ≤ tn := by omega
      have hP1 : tn < 1000000000 := by omega
      have efin : Hid (signT ts ++ ⟨(Lib.itoa (wholeT ts tn)).toArray⟩ ++ tailT (partT ts tn) = ⟨#[]⟩ ++ ⟨(Lib.itoa (ts)).toArray⟩ ++ tailT (tn)) := Lib.hid (by
        have p1 : partT ts tn = tn := by unfold partT; exact if_neg (fun h => hs h.1)
        have p2 : wholeT ts tn = ts := by unfold wholeT; rw [if_neg hs]
        rw [p1, p2]
        unfold signT
        rw [if_neg hs])
      generalize (⟨(Lib.itoa (ts)).toArray⟩ : ByteArray) = a at *
      clear hpad ht0 hs hn
      go_enter Tryz.func82, Tryz.ntmps82
      go_wp2_with fail
      refine (C1.out _).mono ?_; rintro e w1 ⟨rfl, hx1⟩
      obtain ⟨g1, g2, g3⟩ := Hcells.out w1 hx1
      go_wp2_with fail
      refine wp_region_det (Stood _) (by kernel_rfl) (by kernel_rfl) (Stood.start _) ?_
      repeat (first
        | (refine det_skip (by rfl) ?_; simp only [Act.put, List.setIfInBounds_toArray, List.set_cons_zero, List.set_cons_succ])
        | (refine det_op (v := ?_) rfl (by rfl) (fun w' hS => ?_) ?_; rotate_left; (focus (obtain ⟨hcl, hxt⟩ := hS; go_wp2_with (fail); (first | refine ⟨?_, rfl, hcl, hxt⟩ | refine ⟨?_, rfl, Stood.of (hxt.trans (by assumption))⟩); (first | (simp only [List.getElem?_toArray, List.getElem?_cons_succ, List.getElem?_cons_zero]; rfl) | rfl))); simp only [Act.put, List.setIfInBounds_toArray, List.set_cons_zero, List.set_cons_succ]))
      refine det_end ?_
      intro w2 hS
      have hx2 := hS.2
      clear hS
      have hy2 := hx0.trans (hx1.trans hx2)
      go_wp2_with fail
      refine (C3.out _ (ht.ext hy2)).mono ?_; rintro e w3 ⟨rfl, hx3⟩
      have hy3 := hy2.trans hx3
      go_wp2_with fail
      go_loop [7] (fun u => ∃ t : ByteArray, u = .string t ∧ t.size ≤ 9 ∧ Hid (List.replicate (9 - t.size) 48 ++ t.data.toList = pad9 (tn).toNat)) (fun u => 9 - szT u)
      case atStart => exact ⟨t0, rfl, ht9, Hpad⟩
      case round =>
        obtain ⟨t, rfl, ht9', hrel⟩ := hrel
        by_cases hlt : t.size < 9
        · have q3 : decide ((t.size : Int) < 9) = true := decide_eq_true (by omega)
          have hst := Lib.hid (pad_step (t := t) hlt hrel.out)
          have hsz : ((⟨#[48]⟩ : ByteArray) ++ t).size = t.size + 1 := by rw [ByteArray.size_append]; show 1 + t.size = _; omega
          have Hsz := Lib.hid hsz
          clear hsz
          go_wp2_with fail
          go_round
          case rel => exact ⟨_, rfl, by rw [Hsz.out]; omega, hst.out⟩
          case measure => show 9 - ((⟨#[48]⟩ : ByteArray) ++ t).size < 9 - t.size; rw [Hsz.out]; omega
        · have q3 : decide ((t.size : Int) < 9) = false := decide_eq_false (by omega)
          have hfull : Hid (t.data.toList = pad9 (tn).toNat) := Lib.hid (by rw [← hrel.out, show 9 - t.size = 0 by omega]; rfl)
          clear hlt hrel
          go_wp2_with fail
          go_loop [7] (fun u => ∃ v : ByteArray, u = .string v ∧ v.size ≤ 9 ∧ Hid (trimZ v.data.toList = trimZ (pad9 (tn).toNat))) (fun u => szT u)
          case atStart => exact ⟨t, rfl, ht9', Lib.hid (by rw [hfull.out])⟩
          case round =>
            obtain ⟨v, rfl, hv9, hrel⟩ := hrel
            have c4 := fun w => Tryz.strings_HasSuffix v ⟨#[48]⟩ w (by omega)
            cases hsu : Lib.hasSuffix v.data.toList [48] with
            | true =>
              have e48 : Lib.hasSuffix v.data.toList (⟨#[48]⟩ : ByteArray).data.toList = true := hsu
              rw [e48] at c4
              have C4 := Lib.hid c4
              obtain ⟨hv0, hvz, hvt⟩ := suf_cut hsu
              have Hvt := Lib.hid hvt
              have Hvz := Lib.hid hvz
              have i1 : (0 : Int) ≤ (v.size : Int) - 1 := by omega
              have i2 : ((v.size : Int) - 1).toNat = v.size - 1 := by omega
              have i4 : (v.size : Int) - 1 ≤ v.size := by omega
              clear c4 e48 hsu hvt hvz
              go_wp2_with ((with_reducible refine (C4.out _).mono ?_); rintro e w' ⟨rfl, hw⟩; subst w')
              go_round
              case rel => exact ⟨_, rfl, by rw [Hvz.out]; omega, Lib.hid (by rw [Hvt.out, hrel.out])⟩
              case measure => show (v.extract 0 (v.size - 1)).size < v.size; rw [Hvz.out]; omega
            | false =>
              have e48 : Lib.hasSuffix v.data.toList (⟨#[48]⟩ : ByteArray).data.toList = false := hsu
              rw [e48] at c4
              have C4 := Lib.hid c4
              have hvt : Hid (v.data.toList = trimZ (pad9 (tn).toNat)) := Lib.hid (by rw [← hrel.out, suf_not hsu])
              rcases tail_cases (P := tn) (by omega) (by omega) hvt.out with ⟨y1, y2, hfin⟩ | ⟨y1, y2, hfin⟩
              all_goals
                have Hfin := Lib.hid hfin
                clear c4 e48 hsu hfin hvt hrel
                go_wp2_with ((with_reducible refine (C4.out _).mono ?_); rintro e w' ⟨rfl, hw⟩; subst w')
                refine (C2.out _ (ht.ext hy3)).mono ?_; rintro e w5 ⟨rfl, hx5⟩
                go_wp2_with fail
                go_ret2
                exact ⟨ret_val (by rw [ev.out.1, ev.out.2, efin.out, Hfin.out]; first | rfl | simp), hy3.trans hx5⟩
end Go.Proofs.YtnbcbipigiopbaaGreatDoor
