/-
  volume.Split: its walk. No conditions but the arguments' bounds.
-/
import Derived.Test.YtbofobakphlpbaaGreatDoorVolV
namespace Go.Proofs.YtbofobakphlpbaaGreatDoor
open Go.RowKit Go.WideShapes Go.PlainAid

/-- A volume's room, by the number of blocks. -/
def roomC (b : Int) : Nat := (min (b - 1) 60000).toNat * 512
def volE (n : Nat) (b : Int) : Int := if b < 2 then 1 else if 60000 < n ∨ 20 < manyV n (roomC b) then 4 else 0
def volL (H : Nat → Nat → Nat → ByteArray) (s : ByteArray) (b : Int) : List ByteArray := if volE s.size b = 0 then volsL H (partsV s (roomC b)) (manyV s.size (roomC b)) else []
/-- Texts and an error come back. -/
def GivesVol (l : List ByteArray) (k : Int) (w : World) (e : Ending) (w' : World) : Prop := ∃ v, e = .returned (.tuple #[v, errOf k]) ∧ IsStrs w' v l ∧ Ext w w'
theorem vol_own {w w' : World} {base : Nat} {t : TypeId} {sz : Nat} {v : Value} {n : Nat} {xs : List Value} (h : w.ownsRow base t sz v n xs) (hE : Ext w w') : w'.ownsRow base t sz v n xs :=
  h.kept (row := none) ⟨hE.os, hE.tape, hE.output, hE.size, fun b hb _ => hE.block b hb⟩ (by cases v.ownBlock <;> simp)
theorem many_int {n R : Nat} (hR : 1 ≤ R) : max 1 (((n : Int) + (R : Int) - 1) / (R : Int)) = ((manyV n R : Nat) : Int) := by
  have e : ((n : Int) + (R : Int) - 1) / (R : Int) = (((n + R - 1) / R : Nat) : Int) := by
    rw [show (n : Int) + (R : Int) - 1 = ((n + R - 1 : Nat) : Int) by omega]
    rfl
  rw [e]
  unfold manyV
  omega
theorem part_bounds {s : ByteArray} {R k : Nat} (hR : 1 ≤ R) (h : k < manyV s.size R) : k * R ≤ min ((k + 1) * R) s.size ∧ min ((k + 1) * R) s.size ≤ s.size := by
  have h1 := (many_lt hR).1 h
  have h2 : (k + 1) * R = k * R + R := Nat.succ_mul k R
  refine ⟨?_, Nat.min_le_right _ _⟩
  rcases h1 with rfl | h1
  · rw [Nat.zero_mul]; exact Nat.zero_le _
  · omega

set_option maxHeartbeats 4000000 in
set_option maxRecDepth 100000 in
theorem volSplit_any (H : Nat → Nat → Nat → ByteArray) (HC : HeadC H) (s : ByteArray) (hs : s.size ≤ 61000) (b : Int) (hb1 : -9223372036854775808 ≤ b) (hb2 : b ≤ 9223372036854775807) (w : World) (hm : HasMax w) :
    Calls Tryz.prog 8 #[.string s, .int .i64 b] w (GivesVol (volL H s b) (volE s.size b) w) := by
  obtain ⟨i0, hi, hz0, hz1, hz2⟩ := info_parts infoStr
  by_cases h2 : b < 2
  · have e1 : volE s.size b = 1 := by unfold volE; rw [if_pos h2]
    have e2 : volL H s b = [] := by unfold volL; rw [e1]; rfl
    rw [e1, e2]
    clear e1 e2 HC
    go_enter Tryz.func8, Tryz.ntmps8
    go_wp2_with fail
    go_ret2
    exact ⟨_, rfl, .inl ⟨⟨_, _, rfl⟩, rfl⟩, (by show Below _ _ _; repeat' (first | (with_reducible exact Below.refl _ _) | (with_reducible assumption) | (with_reducible refine belowDrewN ?_ _) | (with_reducible refine Below.alloc ?_ ?_ _) | (with_reducible refine Below.drew ?_) | (with_reducible refine Below.setCell ?_ ?_ _) | go_size))⟩
  · obtain ⟨R, hR⟩ : ∃ R, R = roomC b := ⟨_, rfl⟩
    have hR1 : 512 ≤ R := by rw [hR]; unfold roomC; omega
    have hR2 : R ≤ 30720000 := by rw [hR]; unfold roomC; omega
    have hRi : Hid (min (b - 1) 60000 * 512 = (R : Int)) := Lib.hid (by rw [hR]; unfold roomC; omega)
    obtain ⟨M, hM⟩ : ∃ M, M = manyV s.size R := ⟨_, rfl⟩
    have hMi := Lib.hid (many_int (n := s.size) (R := R) (by omega))
    have hM2 := many_le (n := s.size) (R := R) (by omega)
    rw [← hM] at hMi hM2
    have hE0 : Hid (volE s.size b = if 60000 < s.size ∨ 20 < M then 4 else 0) := Lib.hid (by unfold volE; rw [if_neg h2, ← hR, ← hM])
    have hL0 : Hid (volL H s b = if volE s.size b = 0 then volsL H (partsV s R) M else []) := Lib.hid (by unfold volL; rw [← hR, ← hM])
    have hpb : Hid (∀ k, k < M → k * R ≤ min ((k + 1) * R) s.size ∧ min ((k + 1) * R) s.size ≤ s.size) := Lib.hid (fun k hk => part_bounds (by omega) (by rw [← hM]; exact hk))
    have hpl : Hid ((partsV s R).length = M ∧ ∀ k, k < M → (partsV s R).getD k ⟨#[]⟩ = partV s R k) := Lib.hid ⟨by rw [parts_len, hM], fun k hk => parts_at (by rw [← hM]; exact hk)⟩
    obtain ⟨L, hL⟩ : ∃ L, L = partsV s R := ⟨_, rfl⟩
    obtain ⟨E0, hE0'⟩ : ∃ E0, E0 = volE s.size b := ⟨_, rfl⟩
    obtain ⟨L0, hL0'⟩ : ∃ L0, L0 = volL H s b := ⟨_, rfl⟩
    rw [← hL] at hpl hL0
    rw [← hE0'] at hE0 hL0
    rw [← hL0'] at hL0
    rw [← hE0', ← hL0']
    clear hL hE0' hL0' hR hM
    go_enter Tryz.func8, Tryz.ntmps8
    go_upto_region 3 with fail
    go_cut [6] (fun v wx => v = .int .i64 (R : Int) ∧ wx = w)
    case first =>
      go_wp2_with fail
      go_meet
      exact ⟨by rw [hRi.out], rfl⟩
    case rest =>
      obtain ⟨rfl, hw9⟩ := hcut
      rw [hw9]
      clear hw9
      go_upto_region 4 with fail
      go_cut [7] (fun v wx => v = .int .i64 (M : Int) ∧ wx = w)
      case first =>
        go_wp2_with fail
        go_meet
        exact ⟨by rw [hMi.out], rfl⟩
      case rest =>
        obtain ⟨rfl, hw9⟩ := hcut
        rw [hw9]
        clear hw9
        by_cases hl : 60000 < s.size ∨ 20 < M
        · have e1 : Hid (E0 = 4) := Lib.hid (by rw [hE0.out, if_pos hl])
          have e2 : Hid (L0 = []) := Lib.hid (by rw [hL0.out, e1.out]; rfl)
          have hl2 : decide (60000 < (s.size : Int)) = true ∨ (decide (60000 < (s.size : Int)) = false ∧ decide (20 < (M : Int)) = true) := by
            by_cases h6 : 60000 < s.size
            · exact .inl (decide_eq_true (by omega))
            · exact .inr ⟨decide_eq_false (by omega), decide_eq_true (by omega)⟩
          clear hl HC
          rcases hl2 with q1 | ⟨q1, q2⟩
          all_goals
            go_wp2_with fail
            go_ret2
            exact ⟨_, ret_val (by rw [e1.out]; rfl), by rw [e2.out]; exact .inl ⟨⟨_, _, rfl⟩, rfl⟩, (by show Below _ _ _; repeat' (first | (with_reducible exact Below.refl _ _) | (with_reducible assumption) | (with_reducible refine belowDrewN ?_ _) | (with_reducible refine Below.alloc ?_ ?_ _) | (with_reducible refine Below.drew ?_) | (with_reducible refine Below.setCell ?_ ?_ _) | go_size))⟩
        · have hM20 : M ≤ 20 := by omega
          have hs6 : s.size ≤ 60000 := by omega
          have e1 : Hid (E0 = 0) := Lib.hid (by rw [hE0.out, if_neg hl])
          have e2 : Hid (L0 = volsL H L M) := Lib.hid (by rw [hL0.out, e1.out]; rfl)
          have q1 : decide (60000 < (s.size : Int)) = false := decide_eq_false (by omega)
          have q2 : decide (20 < (M : Int)) = false := decide_eq_false (by omega)
          have HCs := Lib.hid HC
          clear hl HC
          go_wp2_with fail
          go_loopw [8, 37] (fun v i wr => ∃ k : Nat, k ≤ M ∧ i = .int .i64 (k : Int) ∧ wr.ownsRow w.heap.size 9 1 v k ((volsL H L k).map Value.string) ∧ Ext w wr) (fun _ i _ => M - (intOf i).toNat)
          case atStart => exact ⟨0, by omega, rfl, World.ownsRow_nil _ _ _ _, Ext.refl _⟩
          case round =>
            obtain ⟨k, hk, rfl, hown, hE⟩ := hrel
            by_cases hlt : k < M
            · obtain ⟨p, hp⟩ : ∃ p, p = k * R := ⟨_, rfl⟩
              obtain ⟨p2, hp2⟩ : ∃ p2, p2 = (k + 1) * R := ⟨_, rfl⟩
              obtain ⟨q, hq⟩ : ∃ q, q = min p2 s.size := ⟨_, rfl⟩
              obtain ⟨b1, b2⟩ := hpb.out k hlt
              rw [← hp, ← hp2, ← hq] at b1
              rw [← hp2, ← hq] at b2
              have b3 : p ≤ 614400000 := by
                have h1 : k * R ≤ 20 * R := Nat.mul_le_mul (by omega) (Nat.le_refl _)
                omega
              have b4 : p2 ≤ 614400000 := by
                have h1 : (k + 1) * R ≤ 20 * R := Nat.mul_le_mul (by omega) (Nat.le_refl _)
                omega
              have w1 : wrap64 ((k : Int) * (R : Int)) = (p : Int) := by
                rw [show (k : Int) * (R : Int) = (p : Int) by rw [hp]; simp]
                unfold wrap64; omega
              have w2 : wrap64 (((k : Int) + 1) * (R : Int)) = (p2 : Int) := by
                rw [show ((k : Int) + 1) * (R : Int) = (p2 : Int) by rw [hp2]; simp]
                unfold wrap64; omega
              have w3 : min (p2 : Int) (s.size : Int) = (q : Int) := by omega
              have hX : Hid (L.getD k ⟨#[]⟩ = s.extract p q) := Lib.hid (by rw [hpl.out.2 k hlt, hp, hq, hp2]; rfl)
              have hXs : (s.extract p q).size ≤ 60000 := by
                rw [ByteArray.size_extract]
                exact Nat.le_trans (Nat.sub_le _ _) (Nat.le_trans (Nat.min_le_right _ _) hs6)
              clear hp hp2 hq
              go_upto_region 11 with fail
              go_cut [10] (fun v wx => v = .string (s.extract p q) ∧ wx = wr)
              case first =>
                go_wp2_with fail
                go_meet
                exact ⟨rfl, rfl⟩
              case rest =>
                obtain ⟨rfl, hw9⟩ := hcut
                rw [hw9]
                clear hw9
                generalize s.extract p q = X at *
                obtain ⟨c0, c1, _⟩ := HCs.out k M X.size (by omega) hM20 hXs
                have ce := c1 wr (hm.ext hE)
                rw [show errOf 0 = .nilIface from rfl] at ce
                have C1 := Lib.hid ce
                clear ce
                have C2 := Lib.hid (fun w => fill_any X (by omega) w)
                have hnew : Hid (volsL H L (k + 1) = volsL H L k ++ [H k M X.size ++ (X ++ padB X.size)]) := Lib.hid (by rw [vols_succ, hpl.out.1, hX.out]; rfl)
                have hpz := padB_size X.size
                generalize padB X.size = pb at *
                generalize H k M X.size = hd at *
                clear c1 w1 w2 w3 b1 b2 b3 b4
                go_wp2_with fail
                refine C1.out.mono ?_; rintro e w1 ⟨rfl, hx1⟩
                go_wp2_with fail
                refine (C2.out _).mono ?_; rintro e w2 ⟨rfl, hx2⟩
                have hE2 := (hE.trans hx1).trans hx2
                have hown2 := vol_own hown (hx1.trans hx2)
                have hz2' := hE2.size
                clear hown hx1 hx2
                go_wp2_with (at_builtin; refine wpList_append_own _ rfl _ _ 22 rfl w.heap.size 9 i0 (.string ByteArray.empty) 1 16 Tryz.underlying22 hi hz0 hz1 hz2 rfl (by decide) _ _ _ rfl (hown2.alloc _) ⟨w2.heap.size, 0, none⟩ 1 1 [.string (hd ++ (X ++ pb))] rfl rfl ?c1 ?c2 ?c3 ?c4 ?c5 ?_)
                case c1 =>
                  intro j u hj
                  match j, hj with
                  | 0, hj => simp at hj; subst hj; simp [Addr.add]
                case c2 => intro u hu; simp at hu; subst hu; rfl
                case c3 => unfold maxLen; omega
                case c4 => omega
                case c5 => simp; omega
                intro v' w3 hown' hgrow _
                have hE3 : Ext w w3 := (hE2.alloc _).ofGrown hgrow (fun j hj => by exact owns_lt hown2 (Nat.le_refl _) j hj)
                have Hown : Hid (w3.ownsRow w.heap.size 9 1 v' (k + 1) ((volsL H L (k + 1)).map Value.string)) := Lib.hid (by rw [hnew.out]; simpa using hown')
                clear hown2 hown' hgrow
                go_wp2_with fail
                go_roundw
                case rel => exact ⟨k + 1, hlt, by go_num, Hown.out, hE3⟩
                case measure => simp [intOf]; omega
            · obtain rfl : k = M := by omega
              have hS : IsStrs wr u8 (volsL H L k) := IsStrs.ofOwns (base := w.heap.size) (by rw [vols_len]; exact hown)
              have HS := Lib.hid hS
              clear hS hown
              go_wp2_with fail
              go_ret2
              exact ⟨_, ret_val (by rw [e1.out]; rfl), by rw [e2.out]; exact HS.out, hE⟩
end Go.Proofs.YtbofobakphlpbaaGreatDoor
