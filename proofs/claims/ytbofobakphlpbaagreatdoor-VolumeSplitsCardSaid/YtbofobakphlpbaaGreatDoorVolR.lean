/-
  The reference's VolumeSplit: its walk. No conditions but the arguments' bounds.
-/
import Derived.Test.YtbofobakphlpbaaGreatDoorVolW
import Derived.Below
namespace Go.Proofs.YtbofobakphlpbaaGreatDoor
open Go.RowKit Go.WideShapes Go.PlainAid

theorem vol_bare (e : Int) (w : World) : Calls Tryz.prog 19 #[.int .i64 e] w fun x w' => x = .returned (.agg #[.int .i64 e, .int .i64 (-1)]) ∧ Ext w w' := by
  go_enter Tryz.func19, Tryz.ntmps19
  go_wp2_with fail
  go_returns
  exact ⟨rfl, (by show Below _ _ _; repeat' (first | (with_reducible exact Below.refl _ _) | (with_reducible assumption) | (with_reducible refine belowDrewN ?_ _) | (with_reducible refine Below.alloc ?_ ?_ _) | (with_reducible refine Below.drew ?_) | (with_reducible refine Below.setCell ?_ ?_ _) | go_size))⟩
theorem vol_good (w : World) : Calls Tryz.prog 22 #[] w fun x w' => x = .returned (.agg #[.int .i64 0, .int .i64 (-1)]) ∧ Ext w w' := by
  go_enter Tryz.func22, Tryz.ntmps22
  go_wp2_with fail
  go_returns
  exact ⟨rfl, (by show Below _ _ _; repeat' (first | (with_reducible exact Below.refl _ _) | (with_reducible assumption) | (with_reducible refine belowDrewN ?_ _) | (with_reducible refine Below.alloc ?_ ?_ _) | (with_reducible refine Below.drew ?_) | (with_reducible refine Below.setCell ?_ ?_ _) | go_size))⟩
theorem vol_box {w W : World} {a b : Int} {t : TypeId} (h : Ext (w.alloc (.cells #[.int .i64 a, .int .i64 b] t)) W) :
    W.cell? ⟨w.heap.size, 0, none⟩ = some (.int .i64 a) ∧ W.cell? ⟨w.heap.size, 1, none⟩ = some (.int .i64 b) ∧ W.frozen? ⟨w.heap.size, 0, none⟩ = false ∧ W.frozen? ⟨w.heap.size, 1, none⟩ = false ∧ w.heap.size < W.heap.size := by
  have h1 := h.cell (show (w.alloc (.cells #[.int .i64 a, .int .i64 b] t)).cell? ⟨w.heap.size, 0, none⟩ = some (.int .i64 a) by simp)
  have h2 := h.cell (show (w.alloc (.cells #[.int .i64 a, .int .i64 b] t)).cell? ⟨w.heap.size, 1, none⟩ = some (.int .i64 b) by simp)
  exact ⟨h1, h2, by rw [h.frozens _ _ (by simp)]; simp, by rw [h.frozens _ _ (by simp)]; simp, World.block_lt_of_cell? W _ h1⟩
theorem vol_put {W : World} {g : Nat} {a b : Value} (h1 : W.cell? ⟨g, 0, none⟩ = some a) (h2 : W.cell? ⟨g, 1, none⟩ = some b) (x y : Value) :
    (W.setCell ⟨g, 0, none⟩ x).cell? ⟨g, 0, none⟩ = some x ∧ ((W.setCell ⟨g, 0, none⟩ x).setCell ⟨g, 1, none⟩ y).cell? ⟨g, 1, none⟩ = some y := by
  refine ⟨World.cell?_setCell_same' _ _ _ (by rw [h1]; rfl), World.cell?_setCell_same' _ _ _ ?_⟩
  rw [World.cell?_setCell_other (h := fun he => by injection he; omega), h2]
  rfl
/-- The reference's room. -/
def roomR (b : Int) : Nat := 512 * (min b 1000 - 1).toNat
theorem room_same {s : ByteArray} {b : Int} (h2 : ¬ b < 2) (hs : s.size ≤ 60000) : partsV s (roomR b) = partsV s (roomC b) ∧ manyV s.size (roomR b) = manyV s.size (roomC b) := by
  have h : partsV s (roomR b) = partsV s (roomC b) := by
    by_cases hb : b ≤ 1000
    · have : roomR b = roomC b := by unfold roomR roomC; omega
      rw [this]
    · exact parts_room (by unfold roomR; omega) (by unfold roomR; omega) (by unfold roomC; omega) (by unfold roomC; omega)
  exact ⟨h, by rw [← parts_len, ← parts_len, h]⟩
/-- The first k parts. -/
def partsT (s : ByteArray) (R k : Nat) : List ByteArray := (List.range k).map (partV s R)
theorem partsT_succ (s : ByteArray) (R k : Nat) : partsT s R (k + 1) = partsT s R k ++ [partV s R k] := by
  unfold partsT
  rw [List.range_succ, List.map_append]
  rfl
theorem partsT_len (s : ByteArray) (R k : Nat) : (partsT s R k).length = k := by
  unfold partsT
  rw [List.length_map, List.length_range]
theorem rest_step {s r : ByteArray} {R j : Nat} (hr : r = s.extract (j * R) s.size) (hj : j * R ≤ s.size) :
    r.size = s.size - j * R ∧ r.extract 0 (min R r.size) = partV s R j ∧ r.extract (min R r.size) r.size = s.extract ((j + 1) * R) s.size := by
  have h2 : (j + 1) * R = j * R + R := Nat.succ_mul j R
  have hz : r.size = s.size - j * R := by rw [hr, ByteArray.size_extract]; omega
  refine ⟨hz, ?_, ?_⟩
  · rw [hr, ByteArray.extract_extract, ← hr]
    unfold partV
    congr 1
    · omega
  · rw [hr, ByteArray.extract_extract, ← hr]
    by_cases h : R ≤ r.size
    · congr 1
      · omega
      · omega
    · have e1 : (s.extract (j * R + min R r.size) (min (j * R + r.size) s.size)).size = 0 := by rw [ByteArray.size_extract]; omega
      have e2 : (s.extract ((j + 1) * R) s.size).size = 0 := by rw [ByteArray.size_extract]; omega
      rw [ByteArray.size_eq_zero_iff] at e1 e2
      rw [e1, e2]
/-- Texts and an error come back, the reference's way. -/
def GivesVolR (l : List ByteArray) (k : Int) (w : World) (e : Ending) (w' : World) : Prop := ∃ v, e = .returned (.tuple #[v, .agg #[.int .i64 k, .int .i64 (-1)]]) ∧ IsStrs w' v l ∧ Ext w w'

/-- The list of texts that a row of the call's own holds, behind two stores into an older block. -/
theorem vol_kept {W : World} {base : Nat} {v : Value} {l : List ByteArray} (h : W.ownsRow base 9 1 v l.length (l.map Value.string)) {g : Nat} (hg : g < base) (x y : Value) :
    IsStrs ((W.setCell ⟨g, 0, none⟩ x).setCell ⟨g, 1, none⟩ y) v l :=
  IsStrs.ofOwns (ownsRow_setCell_below (ownsRow_setCell_below h hg x) hg y)

set_option maxHeartbeats 4000000 in
set_option maxRecDepth 100000 in
theorem refSplit_any (H : Nat → Nat → Nat → ByteArray) (HC : HeadC H) (s : ByteArray) (hs : s.size ≤ 61000) (b : Int) (hb1 : -9223372036854775808 ≤ b) (hb2 : b ≤ 9223372036854775807) (w : World) (hm : HasMax w) :
    Calls Tryz.prog 7 #[.string s, .int .i64 b] w (GivesVolR (volL H s b) (volE s.size b) w) := by
  obtain ⟨i0, hi, hz0, hz1, hz2⟩ := info_parts infoStr
  have CB := Lib.hid (fun e w => vol_bare e w)
  have CG := Lib.hid (fun w => vol_good w)
  by_cases h2 : b < 2
  · have e1 : volE s.size b = 1 := by unfold volE; rw [if_pos h2]
    have e2 : volL H s b = [] := by unfold volL; rw [e1]; rfl
    rw [e1, e2]
    clear e1 e2 HC
    go_enter Tryz.func7, Tryz.ntmps7
    go_wp2_with fail
    refine (CB.out _ _).mono ?_; rintro e w1 ⟨rfl, hx1⟩
    obtain ⟨r1, r2, r3, r4, r5⟩ := vol_box hx1
    go_wp2_with fail
    obtain ⟨s0, s1⟩ := vol_put r1 r2 (.int .i64 1) (.int .i64 (-1))
    exact bodyPost_ret (v := .tuple #[.slice none 0 0, .agg #[.int .i64 1, .int .i64 (-1)]]) (by simp [results, Tryz.results7, go_sem, s0, s1]) rfl ⟨_, rfl, .inl ⟨⟨_, _, rfl⟩, rfl⟩, (Ext.trans ((Ext.refl w).alloc _) hx1).setCell (Nat.le_refl _) _ |>.setCell (Nat.le_refl _) _⟩
  · by_cases h6 : 60000 < s.size
    · have e1 : volE s.size b = 4 := by unfold volE; rw [if_neg h2, if_pos (.inl h6)]
      have e2 : volL H s b = [] := by unfold volL; rw [e1]; rfl
      rw [e1, e2]
      clear e1 e2 HC
      go_enter Tryz.func7, Tryz.ntmps7
      go_wp2_with fail
      refine (CB.out _ _).mono ?_; rintro e w1 ⟨rfl, hx1⟩
      obtain ⟨r1, r2, r3, r4, r5⟩ := vol_box hx1
      go_wp2_with fail
      obtain ⟨s0, s1⟩ := vol_put r1 r2 (.int .i64 4) (.int .i64 (-1))
      exact bodyPost_ret (v := .tuple #[.slice none 0 0, .agg #[.int .i64 4, .int .i64 (-1)]]) (by simp [results, Tryz.results7, go_sem, s0, s1]) rfl ⟨_, rfl, .inl ⟨⟨_, _, rfl⟩, rfl⟩, (Ext.trans ((Ext.refl w).alloc _) hx1).setCell (Nat.le_refl _) _ |>.setCell (Nat.le_refl _) _⟩
    · obtain ⟨R, hR⟩ : ∃ R, R = roomR b := ⟨_, rfl⟩
      have hR1 : 512 ≤ R := by rw [hR]; unfold roomR; omega
      have hR2 : R ≤ 600000 := by rw [hR]; unfold roomR; omega
      have hRi : Hid (512 * (min b 1000 - 1) = (R : Int)) := Lib.hid (by rw [hR]; unfold roomR; omega)
      obtain ⟨hs1, hs2⟩ := room_same (s := s) h2 (by omega)
      rw [← hR] at hs1 hs2
      obtain ⟨M, hM⟩ : ∃ M, M = manyV s.size R := ⟨_, rfl⟩
      have hML : Hid (∀ k, k < M ↔ k = 0 ∨ k * R < s.size) := Lib.hid (fun k => by rw [hM]; exact many_lt (by omega))
      have hM1 : 1 ≤ M := by rw [hM]; exact many_pos _ _
      have hM2 := many_le (n := s.size) (R := R) (by omega)
      rw [← hM] at hM2 hs2
      have hE0 : Hid (volE s.size b = if 20 < M then 4 else 0) := Lib.hid (by
        unfold volE
        rw [if_neg h2, ← hs2]
        by_cases h : 20 < M
        · rw [if_pos (.inr h), if_pos h]
        · rw [if_neg (by omega), if_neg h])
      have hL0 : Hid (volL H s b = if volE s.size b = 0 then volsL H (partsT s R M) M else []) := Lib.hid (by
        unfold volL
        rw [← hs1, ← hs2]
        unfold partsV partsT
        rw [← hM])
      obtain ⟨E0, hE0'⟩ : ∃ E0, E0 = volE s.size b := ⟨_, rfl⟩
      obtain ⟨L0, hL0'⟩ : ∃ L0, L0 = volL H s b := ⟨_, rfl⟩
      rw [← hE0'] at hE0 hL0
      rw [← hL0'] at hL0
      rw [← hE0', ← hL0']
      have HCs := Lib.hid HC
      have hw0 : Ext w (w.alloc (.cells #[.int .i64 0, .int .i64 0] 25)) := (Ext.refl w).alloc _
      clear hE0' hL0' hR hM hs1 hs2 HC
      go_enter Tryz.func7, Tryz.ntmps7
      go_upto_region 5 with fail
      go_cut [6] (fun v wx => v = .int .i64 (R : Int) ∧ Ext (w.alloc (.cells #[.int .i64 0, .int .i64 0] 25)) wx)
      case first =>
        go_wp2_with fail
        go_meet
        exact ⟨by rw [hRi.out], Ext.refl _⟩
      case rest =>
        obtain ⟨rfl, hE1⟩ := hcut
        go_wp2_with fail
        go_loopw [7, 8] (fun v x wr => ∃ (j : Nat) (r : ByteArray), j < M ∧ x = .string r ∧ Hid (r = s.extract (j * R) s.size) ∧ r.size ≤ s.size ∧ wr.ownsRow (w.heap.size + 1) 9 1 v j ((partsT s R j).map Value.string) ∧ Ext (w.alloc (.cells #[.int .i64 0, .int .i64 0] 25)) wr) (fun _ x _ => match x with | .string r => r.size | _ => 0)
        case atStart => exact ⟨0, s, by omega, rfl, Lib.hid (by rw [Nat.zero_mul, ByteArray.extract_zero_size]), Nat.le_refl _, World.ownsRow_nil _ _ _ _, hE1⟩
        case round =>
          obtain ⟨j, r, hj, rfl, hr, hrz, hown, hE⟩ := hrel
          have hjR : j * R ≤ s.size := by
            rcases (hML.out j).1 hj with h | h
            · rw [h, Nat.zero_mul]; exact Nat.zero_le _
            · omega
          obtain ⟨g1, g2, g3⟩ := rest_step hr.out hjR
          obtain ⟨m, hmm⟩ : ∃ m, m = min R r.size := ⟨_, rfl⟩
          rw [← hmm] at g2 g3
          have hmi : min (R : Int) (r.size : Int) = (m : Int) := by omega
          have hm1 : m ≤ r.size := by omega
          have G2 := Lib.hid g2
          have G3 := Lib.hid g3
          have G1 := Lib.hid g1
          have Hm := Lib.hid hmm
          have HjR := Lib.hid hjR
          clear g1 g2 g3 hmm hjR
          go_upto_region 8 with fail
          go_cut [9] (fun v wx => v = .int .i64 (m : Int) ∧ wx = wr)
          case first =>
            go_wp2_with fail
            go_meet
            exact ⟨rfl, rfl⟩
          case rest =>
            obtain ⟨rfl, hw9⟩ := hcut
            rw [hw9]
            clear hw9 hmi
            have hz := hE.size
            rw [World.size_alloc] at hz
            go_wp2_with (at_builtin; refine wpList_append_own _ rfl _ _ 22 rfl (w.heap.size + 1) 9 i0 (.string ByteArray.empty) 1 16 Tryz.underlying22 hi hz0 hz1 hz2 rfl (by decide) _ _ _ rfl (hown.alloc _) ⟨wr.heap.size, 0, none⟩ 1 1 [.string (r.extract 0 m)] rfl rfl ?c1 ?c2 ?c3 ?c4 ?c5 ?_)
            case c1 =>
              intro j u hj
              match j, hj with
              | 0, hj => simp at hj; subst hj; simp [Addr.add]
            case c2 => intro u hu; simp at hu; subst hu; rfl
            case c3 => unfold maxLen; omega
            case c4 => omega
            case c5 => simp; omega
            intro v' w3 hown' hgrow _
            have hE3 : Ext (w.alloc (.cells #[.int .i64 0, .int .i64 0] 25)) w3 := (hE.alloc _).ofGrown hgrow (fun j hj => by rw [World.size_alloc]; exact owns_lt hown (Nat.le_refl _) j hj)
            have Hown : Hid (w3.ownsRow (w.heap.size + 1) 9 1 v' (j + 1) ((partsT s R (j + 1)).map Value.string)) := Lib.hid (by rw [partsT_succ, ← G2.out]; simpa using hown')
            clear hown hown' hgrow hE
            obtain ⟨r', hr'⟩ : ∃ r', r' = r.extract m r.size := ⟨_, rfl⟩
            have hr's : r'.size = r.size - m := by rw [hr', ByteArray.size_extract]; omega
            go_upto_region 10 with fail
            go_cut [8] (fun v wx => v = .string r' ∧ wx = w3)
            case first =>
              go_wp2_with fail
              go_meet
              exact ⟨by rw [hr'], rfl⟩
            case rest =>
              obtain ⟨rfl, hw9⟩ := hcut
              rw [hw9]
              clear hw9
              rw [← hr'] at G3
              have hjs : (j + 1) * R = j * R + R := Nat.succ_mul j R
              have hg1 := G1.out
              have hjr := HjR.out
              have hmz := Hm.out
              have hes : r'.toList.isEmpty = true ↔ r'.size = 0 := by
                rw [ByteArray.toList_eq, List.isEmpty_iff, ← List.length_eq_zero_iff]
                exact Iff.rfl
              have hGz : r'.size = s.size - (j + 1) * R := by rw [G3.out, ByteArray.size_extract]; omega
              cases hq : r'.toList.isEmpty with
              | false =>
                have h0 : r'.size ≠ 0 := fun h => by rw [hes.2 h] at hq; cases hq
                have hj1 : j + 1 < M := (hML.out (j + 1)).2 (.inr (by omega))
                have hms : r'.size < r.size := by omega
                have Hj1 := Lib.hid hj1
                have Hms := Lib.hid hms
                clear hes hGz hr' hr's hjs hg1 hjr hmz h0 hj1 hms
                as_aux_lemma =>
                  go_wp2_with fail
                  go_roundw
                  case rel => exact ⟨j + 1, r', Hj1.out, rfl, G3, by have := Hms.out; omega, Hown.out, hE3⟩
                  case measure => exact Hms.out
              | true =>
                have h0 : r'.size = 0 := hes.1 hq
                have hj1 : ¬ j + 1 < M := fun h => by
                  rcases (hML.out (j + 1)).1 h with h | h
                  · omega
                  · omega
                have hMe : j + 1 = M := by omega
                rw [hMe] at Hown
                clear hes hGz hr' hr's hjs hg1 hjr hmz h0 hj1 hj G1 G2 G3 Hm HjR hML hMe
                obtain ⟨L, hL⟩ : ∃ L, L = partsT s R M := ⟨_, rfl⟩
                have hLl : L.length = M := by rw [hL, partsT_len]
                rw [← hL] at Hown hL0
                have HLl := Lib.hid hLl
                have HS : Hid (IsStrs w3 v' L) := Lib.hid (IsStrs.ofOwns (base := w.heap.size + 1) (by rw [HLl.out]; exact Hown.out))
                obtain ⟨oa, cap, rfl, _, hcells⟩ := HS.out.open
                rw [hLl]
                have Hcells := Lib.hid hcells
                have Hsz : Hid (∀ x ∈ L, x.size ≤ s.size) := Lib.hid (fun x hx => by
                  rw [hL] at hx
                  obtain ⟨j, _, rfl⟩ := List.mem_map.1 hx
                  exact part_le _ _ _)
                clear hL hLl hcells Hown
                by_cases h20 : 20 < M
                · as_aux_lemma =>
                    have e1 : Hid (E0 = 4) := Lib.hid (by rw [hE0.out, if_pos h20])
                    have e2 : Hid (L0 = []) := Lib.hid (by rw [hL0.out, e1.out]; rfl)
                    have q2 : decide (20 < (M : Int)) = true := decide_eq_true (by omega)
                    clear h20
                    go_wp2_with fail
                    refine (CB.out _ _).mono ?_; rintro e w4 ⟨rfl, hx4⟩
                    have hE4 := hE3.trans hx4
                    obtain ⟨r1, r2, r3, r4, r5⟩ := vol_box hE4
                    go_wp2_with fail
                    rw [e1.out, e2.out]
                    obtain ⟨s0, s1⟩ := vol_put r1 r2 (.int .i64 4) (.int .i64 (-1))
                    exact bodyPost_ret (v := .tuple #[.slice none 0 0, .agg #[.int .i64 4, .int .i64 (-1)]]) (by simp [results, Tryz.results7, go_sem, s0, s1]) rfl ⟨_, rfl, .inl ⟨⟨_, _, rfl⟩, rfl⟩, ((hw0.trans hE4).setCell (Nat.le_refl _) _).setCell (Nat.le_refl _) _⟩
                · have e1 : Hid (E0 = 0) := Lib.hid (by rw [hE0.out, if_neg h20])
                  have e2 : Hid (L0 = volsL H L M) := Lib.hid (by rw [hL0.out, e1.out]; rfl)
                  have q2 : decide (20 < (M : Int)) = false := decide_eq_false (by omega)
                  have hM20 : M ≤ 20 := by omega
                  have hz3 := hE3.size
                  rw [World.size_alloc] at hz3
                  clear h20
                  go_wp2_with fail
                  go_loopw [10, 48] (fun v i wr => ∃ k : Nat, k ≤ M ∧ i = .int .i64 (k : Int) ∧ wr.ownsRow w3.heap.size 9 1 v k ((volsL H L k).map Value.string) ∧ Ext w3 wr) (fun _ i _ => M - (intOf i).toNat)
                  case atStart => exact ⟨0, by omega, rfl, World.ownsRow_nil _ _ _ _, Ext.refl _⟩
                  case round =>
                    obtain ⟨k, hk, rfl, hown, hEr⟩ := hrel
                    by_cases hlt : k < M
                    · obtain ⟨b2, o2, rfl, g2⟩ := Hcells.out k (by rw [HLl.out]; exact hlt)
                      have g3 := hEr.cell g2
                      have lb : b2 < wr.heap.size := World.block_lt_of_cell? wr _ g3
                      have hkL : k < L.length := by rw [HLl.out]; exact hlt
                      have hX : Hid (L.getD k ⟨#[]⟩ = L[k]) := Lib.hid (by rw [List.getD_eq_getElem?_getD, List.getElem?_eq_getElem hkL]; rfl)
                      have hXs : L[k].size ≤ 60000 := Nat.le_trans (Hsz.out _ (List.getElem_mem hkL)) (by omega)
                      generalize L[k] = X at *
                      obtain ⟨c0, _, c2⟩ := HCs.out k M X.size (by omega) hM20 hXs
                      have C1 := Lib.hid (c2 wr (hm.ext (hw0.trans (hE3.trans hEr))))
                      have C2 := Lib.hid (fun w => refFill_any X (by omega) w)
                      have hnew : Hid (volsL H L (k + 1) = volsL H L k ++ [H k M X.size ++ (X ++ padB X.size)]) := Lib.hid (by rw [vols_succ, HLl.out, hX.out]; rfl)
                      have hpz := padB_size X.size
                      generalize padB X.size = pb at *
                      generalize H k M X.size = hd at *
                      clear c2 g2
                      as_aux_lemma =>
                        go_wp2_with fail
                        refine C1.out.mono ?_; rintro e w1 ⟨rfl, hx1⟩
                        go_wp2_with fail
                        refine (C2.out _).mono ?_; rintro e w2 ⟨rfl, hx2⟩
                        have hE2 := (hEr.trans hx1).trans hx2
                        have hown2 := vol_own hown (hx1.trans hx2)
                        have hz2' := hE2.size
                        clear hown hx1 hx2
                        go_wp2_with (at_builtin; refine wpList_append_own _ rfl _ _ 22 rfl w3.heap.size 9 i0 (.string ByteArray.empty) 1 16 Tryz.underlying22 hi hz0 hz1 hz2 rfl (by decide) _ _ _ rfl (hown2.alloc _) ⟨w2.heap.size, 0, none⟩ 1 1 [.string (hd ++ (X ++ pb))] rfl rfl ?c1 ?c2 ?c3 ?c4 ?c5 ?_)
                        case c1 =>
                          intro j u hj
                          match j, hj with
                          | 0, hj => simp at hj; subst hj; simp [Addr.add]
                        case c2 => intro u hu; simp at hu; subst hu; rfl
                        case c3 => unfold maxLen; omega
                        case c4 => omega
                        case c5 => simp; omega
                        intro v5 w5 hown' hgrow _
                        have hE5 : Ext w3 w5 := (hE2.alloc _).ofGrown hgrow (fun j hj => by exact owns_lt hown2 (Nat.le_refl _) j hj)
                        have Hown : Hid (w5.ownsRow w3.heap.size 9 1 v5 (k + 1) ((volsL H L (k + 1)).map Value.string)) := Lib.hid (by rw [hnew.out]; simpa using hown')
                        clear hown2 hown' hgrow
                        go_wp2_with fail
                        go_roundw
                        case rel => exact ⟨k + 1, hlt, by go_num, Hown.out, hE5⟩
                        case measure => simp [intOf]; omega
                    · obtain rfl : k = M := by omega
                      as_aux_lemma =>
                        have hO : wr.ownsRow w3.heap.size 9 1 u10 (volsL H L k).length ((volsL H L k).map Value.string) := by rw [vols_len]; exact hown
                        have HO := Lib.hid hO
                        clear hO hown
                        go_wp2_with fail
                        refine (CG.out _).mono ?_; rintro e w4 ⟨rfl, hx4⟩
                        have hE4 := (hE3.trans hEr).trans hx4
                        obtain ⟨r1, r2, r3, r4, r5⟩ := vol_box hE4
                        go_wp2_with fail
                        rw [e1.out, e2.out]
                        obtain ⟨s0, s1⟩ := vol_put r1 r2 (.int .i64 0) (.int .i64 (-1))
                        exact bodyPost_ret (v := .tuple #[u10, .agg #[.int .i64 0, .int .i64 (-1)]]) (by simp [results, Tryz.results7, go_sem, s0, s1]) rfl ⟨_, rfl, vol_kept (vol_own HO.out hx4) (by omega) _ _, ((hw0.trans hE4).setCell (Nat.le_refl _) _).setCell (Nat.le_refl _) _⟩
end Go.Proofs.YtbofobakphlpbaaGreatDoor
