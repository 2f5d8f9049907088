/-
  head.Write and the reference's HeadWrite, both ways, by the form (written by headways.py size), and the header's length. No conditions but the argument's bounds.
-/
import Derived.Test.YtnbcbipigiopbaaGreatDoorPkE
import Derived.Test.YtnbcbipigiopbaaGreatDoorHeadR7
import Derived.Test.YtnbcbipigiopbaaGreatDoorHeadRg
import Derived.Test.YtnbcbipigiopbaaGreatDoorHeadRo
import Derived.Test.YtnbcbipigiopbaaGreatDoorPkF
namespace Go.Proofs.YtnbcbipigiopbaaGreatDoor
open Go.RowKit Go.WideShapes Go.PlainAid


set_option maxHeartbeats 4000000 in
set_option maxRecDepth 100000 in
theorem wayz_v7 (nm lk : ByteArray) (kd md ui gi sz tm : Int) (hnm : nm.size ≤ 1000) (hlk : lk.size ≤ 1000) (hk0 : 0 < kd) (hk1 : kd < 256) (lmd : -9223372036854775808 ≤ md) (umd : md ≤ 9223372036854775807) (lui : -9223372036854775808 ≤ ui) (uui : ui ≤ 9223372036854775807) (lgi : -9223372036854775808 ≤ gi) (ugi : gi ≤ 9223372036854775807) (lsz : -9223372036854775808 ≤ sz) (usz : sz ≤ 9223372036854775807) (ltm : -9223372036854775808 ≤ tm) (utm : tm ≤ 9223372036854775807) : ∃ (s : ByteArray) (k : Int), (k = 0 → s.size = 512) ∧
    (∀ w, HasMax w → Calls Tryz.prog 60 #[.int .i64 1, .agg #[.string nm, .string lk, .string ⟨#[]⟩, .string ⟨#[]⟩, .string ⟨#[]⟩, .int .u8 kd, .int .i64 md, .int .i64 ui, .int .i64 gi, .int .i64 sz, .int .i64 tm, .int .i64 0, .int .i64 0]] w fun e w' => e = .returned (.tuple #[.string s, errOf k]) ∧ Ext w w') ∧
    (∀ w, HasMax w → Calls Tryz.prog 49 #[.int .i64 1, .agg #[.string nm, .string lk, .string ⟨#[]⟩, .string ⟨#[]⟩, .string ⟨#[]⟩, .int .u8 kd, .int .i64 md, .int .i64 ui, .int .i64 gi, .int .i64 sz, .int .i64 tm, .int .i64 0, .int .i64 0]] w fun e w' => e = .returned (.tuple #[.string s, .int .i64 k]) ∧ Ext w w') := by
  obtain ⟨s0, k0, z0, y0, a0, r0⟩ := write_ways md 8 ((1 : Int) == 3) lmd umd
  obtain ⟨s1, k1, z1, y1, a1, r1⟩ := write_ways ui 8 ((1 : Int) == 3) lui uui
  obtain ⟨s2, k2, z2, y2, a2, r2⟩ := write_ways gi 8 ((1 : Int) == 3) lgi ugi
  obtain ⟨s3, k3, z3, y3, a3, r3⟩ := write_ways sz 12 ((1 : Int) == 3) lsz usz
  obtain ⟨s4, k4, z4, y4, a4, r4⟩ := write_ways tm 12 ((1 : Int) == 3) ltm utm
  have hC : ∀ w, HasMax w → ∀ W0 B, Below w.heap.size w W0 → w.heap.size + 1 < B → W0.heap[w.heap.size]? = some (.cells #[.int .i64 1] 3 (0, 0)) → TextC W0 B nm 100 (if fitS nm 100 = true then padV nm 100 else ⟨#[]⟩) (!fitS nm 100) ∧ TextC W0 B lk 100 (if fitS lk 100 = true then padV lk 100 else ⟨#[]⟩) (!fitS lk 100) ∧ TextC W0 B ⟨#[]⟩ 32 (if fitS ⟨#[]⟩ 32 = true then padV ⟨#[]⟩ 32 else ⟨#[]⟩) (!fitS ⟨#[]⟩ 32) ∧ TextC W0 B ⟨#[]⟩ 155 (if fitS ⟨#[]⟩ 155 = true then padV ⟨#[]⟩ 155 else ⟨#[]⟩) (!fitS ⟨#[]⟩ 155) ∧ NumC W0 w.heap.size B md 8 s0 (!(k0 == 0)) ∧ NumC W0 w.heap.size B ui 8 s1 (!(k1 == 0)) ∧ NumC W0 w.heap.size B gi 8 s2 (!(k2 == 0)) ∧ NumC W0 w.heap.size B sz 12 s3 (!(k3 == 0)) ∧ NumC W0 w.heap.size B tm 12 s4 (!(k4 == 0)) := fun w hm W0 B hW hB ha => by
    have hM : ∀ w', Below B W0 w' → HasMax w' := fun w' h => hm.below (Below.trans (B := w.heap.size) hW (below_le (by omega) h)) (Nat.le_refl _)
    exact ⟨textC W0 B nm 100 (by omega) (by omega) hM, textC W0 B lk 100 (by omega) (by omega) hM, textC W0 B ⟨#[]⟩ 32 (by decide) (by omega) hM, textC W0 B ⟨#[]⟩ 155 (by decide) (by omega) hM, numC W0 _ B md 8 1 k0 s0 (by omega) ha r0, numC W0 _ B ui 8 1 k1 s1 (by omega) ha r1, numC W0 _ B gi 8 1 k2 s2 (by omega) ha r2, numC W0 _ B sz 12 1 k3 s3 (by omega) ha r3, numC W0 _ B tm 12 1 k4 s4 (by omega) ha r4⟩
  have ref := fun w hm => refHW_v7 nm lk kd md ui gi sz tm w (by omega) hk1 (by simp; omega) _ _ _ _ s0 s1 s2 s3 s4 (magicV 1) _ _ _ _ _ _ _ _ _ (pad_le nm 100 (by omega)) (pad_le lk 100 (by omega)) (pad_le ⟨#[]⟩ 32 (by omega)) (pad_le ⟨#[]⟩ 155 (by omega)) z0 z1 z2 z3 z4 (magic_le 1) rfl (hC w hm)
  have hc : ∀ k, k < 5 → ∀ w, Calls Tryz.prog 120 #[.int .i64 ((N7 md ui gi sz tm 0 0) k), .int .i64 (nLongI k), .bool ((1 : Int) == 3)] w fun e w' => e = .returned (.tuple #[.string ((T7 s0 s1 s2 s3 s4 ⟨#[]⟩ ⟨#[]⟩) k), errOf ((N7 k0 k1 k2 k3 k4 0 0) k)]) ∧ Ext w w' := fun k hk => by
    rcases (show k = 0 ∨ k = 1 ∨ k = 2 ∨ k = 3 ∨ k = 4 by omega) with rfl | rfl | rfl | rfl | rfl
    · exact a0
    · exact a1
    · exact a2
    · exact a3
    · exact a4
  have hz : ∀ k, ((T7 s0 s1 s2 s3 s4 ⟨#[]⟩ ⟨#[]⟩) k).size ≤ 20 := fun k => by
    match k with
    | 0 => exact z0
    | 1 => exact z1
    | 2 => exact z2
    | 3 => exact z3
    | 4 => exact z4
    | 5 => exact (show (⟨#[]⟩ : ByteArray).size ≤ 20 by decide)
    | _ + 6 => exact (show (⟨#[]⟩ : ByteArray).size ≤ 20 by decide)
  have hz' : ∀ k, k < 5 → (N7 k0 k1 k2 k3 k4 0 0) k = 0 → ((T7 s0 s1 s2 s3 s4 ⟨#[]⟩ ⟨#[]⟩) k).size = nLong k := fun k hk hk0 => by
    rcases (show k = 0 ∨ k = 1 ∨ k = 2 ∨ k = 3 ∨ k = 4 by omega) with rfl | rfl | rfl | rfl | rfl
    · exact Int.ofNat.inj (y0 hk0)
    · exact Int.ofNat.inj (y1 hk0)
    · exact Int.ofNat.inj (y2 hk0)
    · exact Int.ofNat.inj (y3 hk0)
    · exact Int.ofNat.inj (y4 hk0)
  have hX : ∀ k, ((X5 nm lk ⟨#[]⟩ ⟨#[]⟩ ⟨#[]⟩) k).size ≤ 100000 := fun k => by
    match k with
    | 0 => exact Nat.le_trans hnm (by decide)
    | 1 => exact Nat.le_trans hlk (by decide)
    | 2 => exact (show (⟨#[]⟩ : ByteArray).size ≤ 100000 by decide)
    | 3 => exact (show (⟨#[]⟩ : ByteArray).size ≤ 100000 by decide)
    | _ + 4 => exact (show (⟨#[]⟩ : ByteArray).size ≤ 100000 by decide)
  have code := fun V hv1 hv2 hv3 w => headWr (X5 nm lk ⟨#[]⟩ ⟨#[]⟩ ⟨#[]⟩) (T7 s0 s1 s2 s3 s4 ⟨#[]⟩ ⟨#[]⟩) (N7 md ui gi sz tm 0 0) (N7 k0 k1 k2 k3 k4 0 0) kd 1 5 rfl (by decide) (by decide) hk0 hk1 hX (by show fitsV 1 ⟨#[]⟩ ⟨#[]⟩ ⟨#[]⟩ 0 0 = true; rw [fitsV_one]; decide +kernel) hz hz' hc V hv1 hv2 hv3 w
  clear hc hz hX hC
  cases hfl : ((((((((((false || (!fitS nm 100)) || (!(k0 == 0))) || (!(k1 == 0))) || (!(k2 == 0))) || (!(k3 == 0))) || (!(k4 == 0))) || (!fitS lk 100)) || (!fitS ⟨#[]⟩ 32)) || (!fitS ⟨#[]⟩ 32)) || (!fitS ⟨#[]⟩ 155)) with
  | true =>
    refine ⟨⟨#[]⟩, 2, fun h => absurd h (by decide), fun w _ => code _ (fun _ _ _ => rfl) (fun _ _ _ => rfl) (fun a b => ?_) w, fun w hm => ?_⟩
    · exfalso
      have e0 : fitS nm 100 = true := a 0 (by decide)
      have e1 : fitS lk 100 = true := a 1 (by decide)
      have e2 : fitS ⟨#[]⟩ 32 = true := a 2 (by decide)
      have e4 : fitS ⟨#[]⟩ 155 = true := a 4 (by decide)
      have g0 : k0 = 0 := b 0 (by decide)
      have g1 : k1 = 0 := b 1 (by decide)
      have g2 : k2 = 0 := b 2 (by decide)
      have g3 : k3 = 0 := b 3 (by decide)
      have g4 : k4 = 0 := b 4 (by decide)
      rw [e0, e1, e2, e4, g0, g1, g2, g3, g4] at hfl
      exact absurd hfl (by decide)
    · have r := ref w hm
      rw [hfl, if_pos rfl] at r
      exact r
  | false =>
    have hand : fitS nm 100 = true ∧ fitS lk 100 = true ∧ fitS ⟨#[]⟩ 32 = true ∧ fitS ⟨#[]⟩ 155 = true ∧ k0 = 0 ∧ k1 = 0 ∧ k2 = 0 ∧ k3 = 0 ∧ k4 = 0 := by
      simp only [Bool.or_eq_false_iff, Bool.not_eq_false', beq_iff_eq] at hfl
      obtain ⟨⟨⟨⟨⟨⟨⟨⟨⟨⟨_, h0⟩, j0⟩, j1⟩, j2⟩, j3⟩, j4⟩, h1⟩, h2⟩, q2⟩, h4⟩ := hfl
      exact ⟨h0, h1, h2, h4, j0, j1, j2, j3, j4⟩
    obtain ⟨e0, e1, e2, e4, g0, g1, g2, g3, g4⟩ := hand
    obtain ⟨w1, w2, w3⟩ := rowZ_v7 nm lk s0 s1 s2 s3 s4 ⟨#[]⟩ ⟨#[]⟩ kd e0 e1 (Int.ofNat.inj (y0 g0)) (Int.ofNat.inj (y1 g1)) (Int.ofNat.inj (y2 g2)) (Int.ofNat.inj (y3 g3)) (Int.ofNat.inj (y4 g4))
    have hf5 : ∀ k, k < 5 → fitS ((X5 nm lk ⟨#[]⟩ ⟨#[]⟩ ⟨#[]⟩) k) (tLong k) = true := fun k hk => by
      rcases (show k = 0 ∨ k = 1 ∨ k = 2 ∨ k = 3 ∨ k = 4 by omega) with rfl | rfl | rfl | rfl | rfl
      · exact e0
      · exact e1
      · exact e2
      · exact e2
      · exact e4
    have hk7 : ∀ k, k < 5 → (N7 k0 k1 k2 k3 k4 0 0) k = 0 := fun k hk => by
      rcases (show k = 0 ∨ k = 1 ∨ k = 2 ∨ k = 3 ∨ k = 4 by omega) with rfl | rfl | rfl | rfl | rfl
      · exact g0
      · exact g1
      · exact g2
      · exact g3
      · exact g4
    refine ⟨sealS (headS kd z16V true (padV nm 100) (padV lk 100) (padV ⟨#[]⟩ 32) (padV ⟨#[]⟩ 32) (padV ⟨#[]⟩ 155) s0 s1 s2 s3 s4 ⟨#[]⟩ ⟨#[]⟩ (magicV 1)), 0, fun _ => sealS_size _ (sumE_size w3), fun w _ => code _ (fun k hk h => ?_) (fun k hk h => absurd (hk7 k hk) h) (fun _ _ => ?_) w, fun w hm => ?_⟩
    · rw [hf5 k hk] at h
      cases h
    · rw [w1, w2]
    · have r := ref w hm
      rw [hfl, if_neg (by decide), if_pos e0, if_pos e1, if_pos e2, if_pos e4, w3] at r
      exact r

set_option maxHeartbeats 4000000 in
set_option maxRecDepth 100000 in
theorem wayz_gnu (nm lk us gr : ByteArray) (kd md ui gi sz tm ma mi : Int) (hnm : nm.size ≤ 1000) (hlk : lk.size ≤ 1000) (hus : us.size ≤ 1000) (hgr : gr.size ≤ 1000) (hk0 : 0 < kd) (hk1 : kd < 256) (lmd : -9223372036854775808 ≤ md) (umd : md ≤ 9223372036854775807) (lui : -9223372036854775808 ≤ ui) (uui : ui ≤ 9223372036854775807) (lgi : -9223372036854775808 ≤ gi) (ugi : gi ≤ 9223372036854775807) (lsz : -9223372036854775808 ≤ sz) (usz : sz ≤ 9223372036854775807) (ltm : -9223372036854775808 ≤ tm) (utm : tm ≤ 9223372036854775807) (lma : -9223372036854775808 ≤ ma) (uma : ma ≤ 9223372036854775807) (lmi : -9223372036854775808 ≤ mi) (umi : mi ≤ 9223372036854775807) : ∃ (s : ByteArray) (k : Int), (k = 0 → s.size = 512) ∧
    (∀ w, HasMax w → Calls Tryz.prog 60 #[.int .i64 3, .agg #[.string nm, .string lk, .string us, .string gr, .string ⟨#[]⟩, .int .u8 kd, .int .i64 md, .int .i64 ui, .int .i64 gi, .int .i64 sz, .int .i64 tm, .int .i64 ma, .int .i64 mi]] w fun e w' => e = .returned (.tuple #[.string s, errOf k]) ∧ Ext w w') ∧
    (∀ w, HasMax w → Calls Tryz.prog 49 #[.int .i64 3, .agg #[.string nm, .string lk, .string us, .string gr, .string ⟨#[]⟩, .int .u8 kd, .int .i64 md, .int .i64 ui, .int .i64 gi, .int .i64 sz, .int .i64 tm, .int .i64 ma, .int .i64 mi]] w fun e w' => e = .returned (.tuple #[.string s, .int .i64 k]) ∧ Ext w w') := by
  obtain ⟨s0, k0, z0, y0, a0, r0⟩ := write_ways md 8 ((3 : Int) == 3) lmd umd
  obtain ⟨s1, k1, z1, y1, a1, r1⟩ := write_ways ui 8 ((3 : Int) == 3) lui uui
  obtain ⟨s2, k2, z2, y2, a2, r2⟩ := write_ways gi 8 ((3 : Int) == 3) lgi ugi
  obtain ⟨s3, k3, z3, y3, a3, r3⟩ := write_ways sz 12 ((3 : Int) == 3) lsz usz
  obtain ⟨s4, k4, z4, y4, a4, r4⟩ := write_ways tm 12 ((3 : Int) == 3) ltm utm
  obtain ⟨s5, k5, z5, y5, a5, r5⟩ := write_ways ma 8 ((3 : Int) == 3) lma uma
  obtain ⟨s6, k6, z6, y6, a6, r6⟩ := write_ways mi 8 ((3 : Int) == 3) lmi umi
  have hC : ∀ w, HasMax w → ∀ W0 B, Below w.heap.size w W0 → w.heap.size + 1 < B → W0.heap[w.heap.size]? = some (.cells #[.int .i64 3] 3 (0, 0)) → TextC W0 B nm 100 (if fitS nm 100 = true then padV nm 100 else ⟨#[]⟩) (!fitS nm 100) ∧ TextC W0 B lk 100 (if fitS lk 100 = true then padV lk 100 else ⟨#[]⟩) (!fitS lk 100) ∧ TextC W0 B us 32 (if fitS us 32 = true then padV us 32 else ⟨#[]⟩) (!fitS us 32) ∧ TextC W0 B gr 32 (if fitS gr 32 = true then padV gr 32 else ⟨#[]⟩) (!fitS gr 32) ∧ TextC W0 B ⟨#[]⟩ 155 (if fitS ⟨#[]⟩ 155 = true then padV ⟨#[]⟩ 155 else ⟨#[]⟩) (!fitS ⟨#[]⟩ 155) ∧ NumC W0 w.heap.size B md 8 s0 (!(k0 == 0)) ∧ NumC W0 w.heap.size B ui 8 s1 (!(k1 == 0)) ∧ NumC W0 w.heap.size B gi 8 s2 (!(k2 == 0)) ∧ NumC W0 w.heap.size B sz 12 s3 (!(k3 == 0)) ∧ NumC W0 w.heap.size B tm 12 s4 (!(k4 == 0)) ∧ NumC W0 w.heap.size B ma 8 s5 (!(k5 == 0)) ∧ NumC W0 w.heap.size B mi 8 s6 (!(k6 == 0)) := fun w hm W0 B hW hB ha => by
    have hM : ∀ w', Below B W0 w' → HasMax w' := fun w' h => hm.below (Below.trans (B := w.heap.size) hW (below_le (by omega) h)) (Nat.le_refl _)
    exact ⟨textC W0 B nm 100 (by omega) (by omega) hM, textC W0 B lk 100 (by omega) (by omega) hM, textC W0 B us 32 (by omega) (by omega) hM, textC W0 B gr 32 (by omega) (by omega) hM, textC W0 B ⟨#[]⟩ 155 (by decide) (by omega) hM, numC W0 _ B md 8 3 k0 s0 (by omega) ha r0, numC W0 _ B ui 8 3 k1 s1 (by omega) ha r1, numC W0 _ B gi 8 3 k2 s2 (by omega) ha r2, numC W0 _ B sz 12 3 k3 s3 (by omega) ha r3, numC W0 _ B tm 12 3 k4 s4 (by omega) ha r4, numC W0 _ B ma 8 3 k5 s5 (by omega) ha r5, numC W0 _ B mi 8 3 k6 s6 (by omega) ha r6⟩
  have ref := fun w hm => refHW_gnu nm lk us gr kd md ui gi sz tm ma mi w (by omega) hk1 (by simp; omega) _ _ _ _ _ s0 s1 s2 s3 s4 s5 s6 (magicV 3) _ _ _ _ _ _ _ _ _ _ _ _ (pad_le nm 100 (by omega)) (pad_le lk 100 (by omega)) (pad_le us 32 (by omega)) (pad_le gr 32 (by omega)) (pad_le ⟨#[]⟩ 155 (by omega)) z0 z1 z2 z3 z4 z5 z6 (magic_le 3) rfl (hC w hm)
  have hc : ∀ k, k < 7 → ∀ w, Calls Tryz.prog 120 #[.int .i64 ((N7 md ui gi sz tm ma mi) k), .int .i64 (nLongI k), .bool ((3 : Int) == 3)] w fun e w' => e = .returned (.tuple #[.string ((T7 s0 s1 s2 s3 s4 s5 s6) k), errOf ((N7 k0 k1 k2 k3 k4 k5 k6) k)]) ∧ Ext w w' := fun k hk => by
    rcases (show k = 0 ∨ k = 1 ∨ k = 2 ∨ k = 3 ∨ k = 4 ∨ k = 5 ∨ k = 6 by omega) with rfl | rfl | rfl | rfl | rfl | rfl | rfl
    · exact a0
    · exact a1
    · exact a2
    · exact a3
    · exact a4
    · exact a5
    · exact a6
  have hz : ∀ k, ((T7 s0 s1 s2 s3 s4 s5 s6) k).size ≤ 20 := fun k => by
    match k with
    | 0 => exact z0
    | 1 => exact z1
    | 2 => exact z2
    | 3 => exact z3
    | 4 => exact z4
    | 5 => exact z5
    | _ + 6 => exact z6
  have hz' : ∀ k, k < 7 → (N7 k0 k1 k2 k3 k4 k5 k6) k = 0 → ((T7 s0 s1 s2 s3 s4 s5 s6) k).size = nLong k := fun k hk hk0 => by
    rcases (show k = 0 ∨ k = 1 ∨ k = 2 ∨ k = 3 ∨ k = 4 ∨ k = 5 ∨ k = 6 by omega) with rfl | rfl | rfl | rfl | rfl | rfl | rfl
    · exact Int.ofNat.inj (y0 hk0)
    · exact Int.ofNat.inj (y1 hk0)
    · exact Int.ofNat.inj (y2 hk0)
    · exact Int.ofNat.inj (y3 hk0)
    · exact Int.ofNat.inj (y4 hk0)
    · exact Int.ofNat.inj (y5 hk0)
    · exact Int.ofNat.inj (y6 hk0)
  have hX : ∀ k, ((X5 nm lk us gr ⟨#[]⟩) k).size ≤ 100000 := fun k => by
    match k with
    | 0 => exact Nat.le_trans hnm (by decide)
    | 1 => exact Nat.le_trans hlk (by decide)
    | 2 => exact Nat.le_trans hus (by decide)
    | 3 => exact Nat.le_trans hgr (by decide)
    | _ + 4 => exact (show (⟨#[]⟩ : ByteArray).size ≤ 100000 by decide)
  have code := fun V hv1 hv2 hv3 w => headWr (X5 nm lk us gr ⟨#[]⟩) (T7 s0 s1 s2 s3 s4 s5 s6) (N7 md ui gi sz tm ma mi) (N7 k0 k1 k2 k3 k4 k5 k6) kd 3 7 rfl (by decide) (by decide) hk0 hk1 hX (by show fitsV 3 us gr ⟨#[]⟩ ma mi = true; rw [fitsV_three]; decide +kernel) hz hz' hc V hv1 hv2 hv3 w
  clear hc hz hX hC
  cases hfl : ((((((((((((false || (!fitS nm 100)) || (!(k0 == 0))) || (!(k1 == 0))) || (!(k2 == 0))) || (!(k3 == 0))) || (!(k4 == 0))) || (!fitS lk 100)) || (!fitS us 32)) || (!fitS gr 32)) || (!(k5 == 0))) || (!(k6 == 0))) || (!fitS ⟨#[]⟩ 155)) with
  | true =>
    refine ⟨⟨#[]⟩, 2, fun h => absurd h (by decide), fun w _ => code _ (fun _ _ _ => rfl) (fun _ _ _ => rfl) (fun a b => ?_) w, fun w hm => ?_⟩
    · exfalso
      have e0 : fitS nm 100 = true := a 0 (by decide)
      have e1 : fitS lk 100 = true := a 1 (by decide)
      have e2 : fitS us 32 = true := a 2 (by decide)
      have e3 : fitS gr 32 = true := a 3 (by decide)
      have e4 : fitS ⟨#[]⟩ 155 = true := a 4 (by decide)
      have g0 : k0 = 0 := b 0 (by decide)
      have g1 : k1 = 0 := b 1 (by decide)
      have g2 : k2 = 0 := b 2 (by decide)
      have g3 : k3 = 0 := b 3 (by decide)
      have g4 : k4 = 0 := b 4 (by decide)
      have g5 : k5 = 0 := b 5 (by decide)
      have g6 : k6 = 0 := b 6 (by decide)
      rw [e0, e1, e2, e3, e4, g0, g1, g2, g3, g4, g5, g6] at hfl
      exact absurd hfl (by decide)
    · have r := ref w hm
      rw [hfl, if_pos rfl] at r
      exact r
  | false =>
    have hand : fitS nm 100 = true ∧ fitS lk 100 = true ∧ fitS us 32 = true ∧ fitS gr 32 = true ∧ fitS ⟨#[]⟩ 155 = true ∧ k0 = 0 ∧ k1 = 0 ∧ k2 = 0 ∧ k3 = 0 ∧ k4 = 0 ∧ k5 = 0 ∧ k6 = 0 := by
      simp only [Bool.or_eq_false_iff, Bool.not_eq_false', beq_iff_eq] at hfl
      obtain ⟨⟨⟨⟨⟨⟨⟨⟨⟨⟨⟨⟨_, h0⟩, j0⟩, j1⟩, j2⟩, j3⟩, j4⟩, h1⟩, h2⟩, h3⟩, j5⟩, j6⟩, h4⟩ := hfl
      exact ⟨h0, h1, h2, h3, h4, j0, j1, j2, j3, j4, j5, j6⟩
    obtain ⟨e0, e1, e2, e3, e4, g0, g1, g2, g3, g4, g5, g6⟩ := hand
    obtain ⟨w1, w2, w3⟩ := rowZ_mg nm lk us gr ⟨#[]⟩ s0 s1 s2 s3 s4 s5 s6 3 kd (by decide) e0 e1 e2 e3 e4 (Int.ofNat.inj (y0 g0)) (Int.ofNat.inj (y1 g1)) (Int.ofNat.inj (y2 g2)) (Int.ofNat.inj (y3 g3)) (Int.ofNat.inj (y4 g4)) (Int.ofNat.inj (y5 g5)) (Int.ofNat.inj (y6 g6))
    have hf5 : ∀ k, k < 5 → fitS ((X5 nm lk us gr ⟨#[]⟩) k) (tLong k) = true := fun k hk => by
      rcases (show k = 0 ∨ k = 1 ∨ k = 2 ∨ k = 3 ∨ k = 4 by omega) with rfl | rfl | rfl | rfl | rfl
      · exact e0
      · exact e1
      · exact e2
      · exact e3
      · exact e4
    have hk7 : ∀ k, k < 7 → (N7 k0 k1 k2 k3 k4 k5 k6) k = 0 := fun k hk => by
      rcases (show k = 0 ∨ k = 1 ∨ k = 2 ∨ k = 3 ∨ k = 4 ∨ k = 5 ∨ k = 6 by omega) with rfl | rfl | rfl | rfl | rfl | rfl | rfl
      · exact g0
      · exact g1
      · exact g2
      · exact g3
      · exact g4
      · exact g5
      · exact g6
    refine ⟨sealS (headS kd z16V false (padV nm 100) (padV lk 100) (padV us 32) (padV gr 32) (padV ⟨#[]⟩ 155) s0 s1 s2 s3 s4 s5 s6 (magicV 3)), 0, fun _ => sealS_size _ (sumE_size w3), fun w _ => code _ (fun k hk h => ?_) (fun k hk h => absurd (hk7 k hk) h) (fun _ _ => ?_) w, fun w hm => ?_⟩
    · rw [hf5 k hk] at h
      cases h
    · rw [w1, w2]
    · have r := ref w hm
      rw [hfl, if_neg (by decide), if_pos e0, if_pos e1, if_pos e2, if_pos e3, if_pos e4, w3] at r
      exact r

set_option maxHeartbeats 4000000 in
set_option maxRecDepth 100000 in
theorem wayz_oth (nm lk us gr fr : ByteArray) (kd md ui gi sz tm ma mi f : Int) (hf1 : 1 ≤ f) (hf4 : f ≤ 4) (n1 : f ≠ 1) (n3 : f ≠ 3) (hnm : nm.size ≤ 1000) (hlk : lk.size ≤ 1000) (hus : us.size ≤ 1000) (hgr : gr.size ≤ 1000) (hfr : fr.size ≤ 1000) (hk0 : 0 < kd) (hk1 : kd < 256) (lmd : -9223372036854775808 ≤ md) (umd : md ≤ 9223372036854775807) (lui : -9223372036854775808 ≤ ui) (uui : ui ≤ 9223372036854775807) (lgi : -9223372036854775808 ≤ gi) (ugi : gi ≤ 9223372036854775807) (lsz : -9223372036854775808 ≤ sz) (usz : sz ≤ 9223372036854775807) (ltm : -9223372036854775808 ≤ tm) (utm : tm ≤ 9223372036854775807) (lma : -9223372036854775808 ≤ ma) (uma : ma ≤ 9223372036854775807) (lmi : -9223372036854775808 ≤ mi) (umi : mi ≤ 9223372036854775807) : ∃ (s : ByteArray) (k : Int), (k = 0 → s.size = 512) ∧
    (∀ w, HasMax w → Calls Tryz.prog 60 #[.int .i64 f, .agg #[.string nm, .string lk, .string us, .string gr, .string fr, .int .u8 kd, .int .i64 md, .int .i64 ui, .int .i64 gi, .int .i64 sz, .int .i64 tm, .int .i64 ma, .int .i64 mi]] w fun e w' => e = .returned (.tuple #[.string s, errOf k]) ∧ Ext w w') ∧
    (∀ w, HasMax w → Calls Tryz.prog 49 #[.int .i64 f, .agg #[.string nm, .string lk, .string us, .string gr, .string fr, .int .u8 kd, .int .i64 md, .int .i64 ui, .int .i64 gi, .int .i64 sz, .int .i64 tm, .int .i64 ma, .int .i64 mi]] w fun e w' => e = .returned (.tuple #[.string s, .int .i64 k]) ∧ Ext w w') := by
  obtain ⟨s0, k0, z0, y0, a0, r0⟩ := write_ways md 8 ((f : Int) == 3) lmd umd
  obtain ⟨s1, k1, z1, y1, a1, r1⟩ := write_ways ui 8 ((f : Int) == 3) lui uui
  obtain ⟨s2, k2, z2, y2, a2, r2⟩ := write_ways gi 8 ((f : Int) == 3) lgi ugi
  obtain ⟨s3, k3, z3, y3, a3, r3⟩ := write_ways sz 12 ((f : Int) == 3) lsz usz
  obtain ⟨s4, k4, z4, y4, a4, r4⟩ := write_ways tm 12 ((f : Int) == 3) ltm utm
  obtain ⟨s5, k5, z5, y5, a5, r5⟩ := write_ways ma 8 ((f : Int) == 3) lma uma
  obtain ⟨s6, k6, z6, y6, a6, r6⟩ := write_ways mi 8 ((f : Int) == 3) lmi umi
  have hC : ∀ w, HasMax w → ∀ W0 B, Below w.heap.size w W0 → w.heap.size + 1 < B → W0.heap[w.heap.size]? = some (.cells #[.int .i64 f] 3 (0, 0)) → TextC W0 B nm 100 (if fitS nm 100 = true then padV nm 100 else ⟨#[]⟩) (!fitS nm 100) ∧ TextC W0 B lk 100 (if fitS lk 100 = true then padV lk 100 else ⟨#[]⟩) (!fitS lk 100) ∧ TextC W0 B us 32 (if fitS us 32 = true then padV us 32 else ⟨#[]⟩) (!fitS us 32) ∧ TextC W0 B gr 32 (if fitS gr 32 = true then padV gr 32 else ⟨#[]⟩) (!fitS gr 32) ∧ TextC W0 B fr 155 (if fitS fr 155 = true then padV fr 155 else ⟨#[]⟩) (!fitS fr 155) ∧ NumC W0 w.heap.size B md 8 s0 (!(k0 == 0)) ∧ NumC W0 w.heap.size B ui 8 s1 (!(k1 == 0)) ∧ NumC W0 w.heap.size B gi 8 s2 (!(k2 == 0)) ∧ NumC W0 w.heap.size B sz 12 s3 (!(k3 == 0)) ∧ NumC W0 w.heap.size B tm 12 s4 (!(k4 == 0)) ∧ NumC W0 w.heap.size B ma 8 s5 (!(k5 == 0)) ∧ NumC W0 w.heap.size B mi 8 s6 (!(k6 == 0)) := fun w hm W0 B hW hB ha => by
    have hM : ∀ w', Below B W0 w' → HasMax w' := fun w' h => hm.below (Below.trans (B := w.heap.size) hW (below_le (by omega) h)) (Nat.le_refl _)
    exact ⟨textC W0 B nm 100 (by omega) (by omega) hM, textC W0 B lk 100 (by omega) (by omega) hM, textC W0 B us 32 (by omega) (by omega) hM, textC W0 B gr 32 (by omega) (by omega) hM, textC W0 B fr 155 (by omega) (by omega) hM, numC W0 _ B md 8 f k0 s0 (by omega) ha r0, numC W0 _ B ui 8 f k1 s1 (by omega) ha r1, numC W0 _ B gi 8 f k2 s2 (by omega) ha r2, numC W0 _ B sz 12 f k3 s3 (by omega) ha r3, numC W0 _ B tm 12 f k4 s4 (by omega) ha r4, numC W0 _ B ma 8 f k5 s5 (by omega) ha r5, numC W0 _ B mi 8 f k6 s6 (by omega) ha r6⟩
  have ref := fun w hm => refHW_oth nm lk us gr fr kd md ui gi sz tm ma mi f w hf1 hf4 (by simpa using n1) (by simpa using n3) (by omega) hk1 (by simp; omega) _ _ _ _ _ s0 s1 s2 s3 s4 s5 s6 (magicV f) _ _ _ _ _ _ _ _ _ _ _ _ (pad_le nm 100 (by omega)) (pad_le lk 100 (by omega)) (pad_le us 32 (by omega)) (pad_le gr 32 (by omega)) (pad_le fr 155 (by omega)) z0 z1 z2 z3 z4 z5 z6 (magic_le f) rfl (hC w hm)
  have hc : ∀ k, k < 7 → ∀ w, Calls Tryz.prog 120 #[.int .i64 ((N7 md ui gi sz tm ma mi) k), .int .i64 (nLongI k), .bool ((f : Int) == 3)] w fun e w' => e = .returned (.tuple #[.string ((T7 s0 s1 s2 s3 s4 s5 s6) k), errOf ((N7 k0 k1 k2 k3 k4 k5 k6) k)]) ∧ Ext w w' := fun k hk => by
    rcases (show k = 0 ∨ k = 1 ∨ k = 2 ∨ k = 3 ∨ k = 4 ∨ k = 5 ∨ k = 6 by omega) with rfl | rfl | rfl | rfl | rfl | rfl | rfl
    · exact a0
    · exact a1
    · exact a2
    · exact a3
    · exact a4
    · exact a5
    · exact a6
  have hz : ∀ k, ((T7 s0 s1 s2 s3 s4 s5 s6) k).size ≤ 20 := fun k => by
    match k with
    | 0 => exact z0
    | 1 => exact z1
    | 2 => exact z2
    | 3 => exact z3
    | 4 => exact z4
    | 5 => exact z5
    | _ + 6 => exact z6
  have hz' : ∀ k, k < 7 → (N7 k0 k1 k2 k3 k4 k5 k6) k = 0 → ((T7 s0 s1 s2 s3 s4 s5 s6) k).size = nLong k := fun k hk hk0 => by
    rcases (show k = 0 ∨ k = 1 ∨ k = 2 ∨ k = 3 ∨ k = 4 ∨ k = 5 ∨ k = 6 by omega) with rfl | rfl | rfl | rfl | rfl | rfl | rfl
    · exact Int.ofNat.inj (y0 hk0)
    · exact Int.ofNat.inj (y1 hk0)
    · exact Int.ofNat.inj (y2 hk0)
    · exact Int.ofNat.inj (y3 hk0)
    · exact Int.ofNat.inj (y4 hk0)
    · exact Int.ofNat.inj (y5 hk0)
    · exact Int.ofNat.inj (y6 hk0)
  have hX : ∀ k, ((X5 nm lk us gr fr) k).size ≤ 100000 := fun k => by
    match k with
    | 0 => exact Nat.le_trans hnm (by decide)
    | 1 => exact Nat.le_trans hlk (by decide)
    | 2 => exact Nat.le_trans hus (by decide)
    | 3 => exact Nat.le_trans hgr (by decide)
    | _ + 4 => exact Nat.le_trans hfr (by decide)
  have code := fun V hv1 hv2 hv3 w => headWr (X5 nm lk us gr fr) (T7 s0 s1 s2 s3 s4 s5 s6) (N7 md ui gi sz tm ma mi) (N7 k0 k1 k2 k3 k4 k5 k6) kd f 7 (by rw [if_neg n1]) hf1 hf4 hk0 hk1 hX (fitsV_other n1 n3 _ _ _ _ _) hz hz' hc V hv1 hv2 hv3 w
  clear hc hz hX hC
  cases hfl : ((((((((((((false || (!fitS nm 100)) || (!(k0 == 0))) || (!(k1 == 0))) || (!(k2 == 0))) || (!(k3 == 0))) || (!(k4 == 0))) || (!fitS lk 100)) || (!fitS us 32)) || (!fitS gr 32)) || (!(k5 == 0))) || (!(k6 == 0))) || (!fitS fr 155)) with
  | true =>
    refine ⟨⟨#[]⟩, 2, fun h => absurd h (by decide), fun w _ => code _ (fun _ _ _ => rfl) (fun _ _ _ => rfl) (fun a b => ?_) w, fun w hm => ?_⟩
    · exfalso
      have e0 : fitS nm 100 = true := a 0 (by decide)
      have e1 : fitS lk 100 = true := a 1 (by decide)
      have e2 : fitS us 32 = true := a 2 (by decide)
      have e3 : fitS gr 32 = true := a 3 (by decide)
      have e4 : fitS fr 155 = true := a 4 (by decide)
      have g0 : k0 = 0 := b 0 (by decide)
      have g1 : k1 = 0 := b 1 (by decide)
      have g2 : k2 = 0 := b 2 (by decide)
      have g3 : k3 = 0 := b 3 (by decide)
      have g4 : k4 = 0 := b 4 (by decide)
      have g5 : k5 = 0 := b 5 (by decide)
      have g6 : k6 = 0 := b 6 (by decide)
      rw [e0, e1, e2, e3, e4, g0, g1, g2, g3, g4, g5, g6] at hfl
      exact absurd hfl (by decide)
    · have r := ref w hm
      rw [hfl, if_pos rfl] at r
      exact r
  | false =>
    have hand : fitS nm 100 = true ∧ fitS lk 100 = true ∧ fitS us 32 = true ∧ fitS gr 32 = true ∧ fitS fr 155 = true ∧ k0 = 0 ∧ k1 = 0 ∧ k2 = 0 ∧ k3 = 0 ∧ k4 = 0 ∧ k5 = 0 ∧ k6 = 0 := by
      simp only [Bool.or_eq_false_iff, Bool.not_eq_false', beq_iff_eq] at hfl
      obtain ⟨⟨⟨⟨⟨⟨⟨⟨⟨⟨⟨⟨_, h0⟩, j0⟩, j1⟩, j2⟩, j3⟩, j4⟩, h1⟩, h2⟩, h3⟩, j5⟩, j6⟩, h4⟩ := hfl
      exact ⟨h0, h1, h2, h3, h4, j0, j1, j2, j3, j4, j5, j6⟩
    obtain ⟨e0, e1, e2, e3, e4, g0, g1, g2, g3, g4, g5, g6⟩ := hand
    obtain ⟨w1, w2, w3⟩ := rowZ_mg nm lk us gr fr s0 s1 s2 s3 s4 s5 s6 f kd n1 e0 e1 e2 e3 e4 (Int.ofNat.inj (y0 g0)) (Int.ofNat.inj (y1 g1)) (Int.ofNat.inj (y2 g2)) (Int.ofNat.inj (y3 g3)) (Int.ofNat.inj (y4 g4)) (Int.ofNat.inj (y5 g5)) (Int.ofNat.inj (y6 g6))
    have hf5 : ∀ k, k < 5 → fitS ((X5 nm lk us gr fr) k) (tLong k) = true := fun k hk => by
      rcases (show k = 0 ∨ k = 1 ∨ k = 2 ∨ k = 3 ∨ k = 4 by omega) with rfl | rfl | rfl | rfl | rfl
      · exact e0
      · exact e1
      · exact e2
      · exact e3
      · exact e4
    have hk7 : ∀ k, k < 7 → (N7 k0 k1 k2 k3 k4 k5 k6) k = 0 := fun k hk => by
      rcases (show k = 0 ∨ k = 1 ∨ k = 2 ∨ k = 3 ∨ k = 4 ∨ k = 5 ∨ k = 6 by omega) with rfl | rfl | rfl | rfl | rfl | rfl | rfl
      · exact g0
      · exact g1
      · exact g2
      · exact g3
      · exact g4
      · exact g5
      · exact g6
    refine ⟨sealS (headS kd z16V false (padV nm 100) (padV lk 100) (padV us 32) (padV gr 32) (padV fr 155) s0 s1 s2 s3 s4 s5 s6 (magicV f)), 0, fun _ => sealS_size _ (sumE_size w3), fun w _ => code _ (fun k hk h => ?_) (fun k hk h => absurd (hk7 k hk) h) (fun _ _ => ?_) w, fun w hm => ?_⟩
    · rw [hf5 k hk] at h
      cases h
    · rw [w1, w2]
    · have r := ref w hm
      rw [hfl, if_neg (by decide), if_pos e0, if_pos e1, if_pos e2, if_pos e3, if_pos e4, w3] at r
      exact r

theorem head_wayz (nm lk us gr fr : ByteArray) (kd md ui gi sz tm ma mi f : Int) (hnm : nm.size ≤ 1000) (hlk : lk.size ≤ 1000) (hus : us.size ≤ 1000) (hgr : gr.size ≤ 1000) (hfr : fr.size ≤ 1000) (hk0 : 0 ≤ kd) (hk1 : kd < 256)
    (lmd : -9223372036854775808 ≤ md) (umd : md ≤ 9223372036854775807) (lui : -9223372036854775808 ≤ ui) (uui : ui ≤ 9223372036854775807) (lgi : -9223372036854775808 ≤ gi) (ugi : gi ≤ 9223372036854775807) (lsz : -9223372036854775808 ≤ sz) (usz : sz ≤ 9223372036854775807)
    (ltm : -9223372036854775808 ≤ tm) (utm : tm ≤ 9223372036854775807) (lma : -9223372036854775808 ≤ ma) (uma : ma ≤ 9223372036854775807) (lmi : -9223372036854775808 ≤ mi) (umi : mi ≤ 9223372036854775807) : ∃ (s : ByteArray) (k : Int), (k = 0 → s.size = 512) ∧
    (∀ w, HasMax w → Calls Tryz.prog 60 #[.int .i64 f, .agg #[.string nm, .string lk, .string us, .string gr, .string fr, .int .u8 kd, .int .i64 md, .int .i64 ui, .int .i64 gi, .int .i64 sz, .int .i64 tm, .int .i64 ma, .int .i64 mi]] w fun e w' => e = .returned (.tuple #[.string s, errOf k]) ∧ Ext w w') ∧
    (∀ w, HasMax w → Calls Tryz.prog 49 #[.int .i64 f, .agg #[.string nm, .string lk, .string us, .string gr, .string fr, .int .u8 kd, .int .i64 md, .int .i64 ui, .int .i64 gi, .int .i64 sz, .int .i64 tm, .int .i64 ma, .int .i64 mi]] w fun e w' => e = .returned (.tuple #[.string s, .int .i64 k]) ∧ Ext w w') := by
  by_cases hA : f < 1 ∨ 4 < f ∨ kd = 0
  · exact ⟨⟨#[]⟩, 1, fun h => absurd h (by decide), fun w _ => headWr_arg nm lk us gr fr kd md ui gi sz tm ma mi f hA w, fun w _ => refHW_arg nm lk us gr fr kd md ui gi sz tm ma mi f hA w⟩
  · have hkp : 0 < kd := by omega
    have hf1 : 1 ≤ f := by omega
    have hf4 : f ≤ 4 := by omega
    cases hB : fitsV f us gr fr ma mi with
    | false => exact ⟨⟨#[]⟩, 2, fun h => absurd h (by decide), fun w _ => headWr_range nm lk us gr fr kd md ui gi sz tm ma mi f hf1 hf4 hkp hB w, fun w _ => refHW_range nm lk us gr fr kd md ui gi sz tm ma mi f hf1 hf4 (by simp; omega) hus hgr hfr hB w⟩
    | true =>
      by_cases h1 : f = 1
      · subst h1
        rw [fitsV_one, empty3] at hB
        simp only [Bool.and_eq_true, beq_iff_eq] at hB
        obtain ⟨⟨⟨⟨a1, a2⟩, a3⟩, rfl⟩, rfl⟩ := hB
        obtain rfl := empty_eq a1
        obtain rfl := empty_eq a2
        obtain rfl := empty_eq a3
        exact wayz_v7 nm lk kd md ui gi sz tm hnm hlk hkp hk1 lmd umd lui uui lgi ugi lsz usz ltm utm
      · by_cases h3 : f = 3
        · subst h3
          rw [fitsV_three] at hB
          obtain rfl := empty_eq hB
          exact wayz_gnu nm lk us gr kd md ui gi sz tm ma mi hnm hlk hus hgr hkp hk1 lmd umd lui uui lgi ugi lsz usz ltm utm lma uma lmi umi
        · exact wayz_oth nm lk us gr fr kd md ui gi sz tm ma mi f hf1 hf4 h1 h3 hnm hlk hus hgr hfr hkp hk1 lmd umd lui uui lgi ugi lsz usz ltm utm lma uma lmi umi
end Go.Proofs.YtnbcbipigiopbaaGreatDoor
