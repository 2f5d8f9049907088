/-
  head.Write and the reference's HeadWrite in the forms of Ustar and Pax where all fields fit (written by headways.py goodp). No conditions but the argument's bounds.
-/
import Derived.Test.YtnbcbipigiopbaaGreatDoorPkE
import Derived.Test.YtnbcbipigiopbaaGreatDoorHeadRo
import Derived.Test.YtnbcbipigiopbaaGreatDoorPkF
import Derived.Test.YtnbcbipigiopbaaGreatDoorMwG
namespace Go.Proofs.YtnbcbipigiopbaaGreatDoor
open Go.RowKit Go.WideShapes Go.PlainAid


set_option maxHeartbeats 4000000 in
set_option maxRecDepth 100000 in
theorem good_oth (nm lk us gr fr : ByteArray) (kd md ui gi sz tm ma mi f : Int) (hf1 : 1 ≤ f) (hf4 : f ≤ 4) (n1 : f ≠ 1) (n3 : f ≠ 3) (hnm : nm.size ≤ 1000) (hlk : lk.size ≤ 1000) (hus : us.size ≤ 1000) (hgr : gr.size ≤ 1000) (hfr : fr.size ≤ 1000) (hk0 : 0 < kd) (hk1 : kd < 256) (lmd : -9223372036854775808 ≤ md) (umd : md ≤ 9223372036854775807) (lui : -9223372036854775808 ≤ ui) (uui : ui ≤ 9223372036854775807) (lgi : -9223372036854775808 ≤ gi) (ugi : gi ≤ 9223372036854775807) (lsz : -9223372036854775808 ≤ sz) (usz : sz ≤ 9223372036854775807) (ltm : -9223372036854775808 ≤ tm) (utm : tm ≤ 9223372036854775807) (lma : -9223372036854775808 ≤ ma) (uma : ma ≤ 9223372036854775807) (lmi : -9223372036854775808 ≤ mi) (umi : mi ≤ 9223372036854775807) (p0 : fitS nm 100 = true) (p1 : fitS lk 100 = true) (p2 : fitS us 32 = true) (p3 : fitS gr 32 = true) (p4 : fitS fr 155 = true) (o0 : octE md 8 = 0) (o1 : octE ui 8 = 0) (o2 : octE gi 8 = 0) (o3 : octE sz 12 = 0) (o4 : octE tm 12 = 0) (o5 : octE ma 8 = 0) (o6 : octE mi 8 = 0) : ∃ s : ByteArray, s.size = 512 ∧
    (∀ w, HasMax w → Calls Tryz.prog 60 #[.int .i64 f, .agg #[.string nm, .string lk, .string us, .string gr, .string fr, .int .u8 kd, .int .i64 md, .int .i64 ui, .int .i64 gi, .int .i64 sz, .int .i64 tm, .int .i64 ma, .int .i64 mi]] w fun e w' => e = .returned (.tuple #[.string s, errOf 0]) ∧ Ext w w') ∧
    (∀ w, HasMax w → Calls Tryz.prog 49 #[.int .i64 f, .agg #[.string nm, .string lk, .string us, .string gr, .string fr, .int .u8 kd, .int .i64 md, .int .i64 ui, .int .i64 gi, .int .i64 sz, .int .i64 tm, .int .i64 ma, .int .i64 mi]] w fun e w' => e = .returned (.tuple #[.string s, .int .i64 0]) ∧ Ext w w') := by
  obtain ⟨s0, k0, z0, y0, f0, a0, r0⟩ := write_ways2 md 8 ((f : Int) == 3) lmd umd
  obtain ⟨s1, k1, z1, y1, f1, a1, r1⟩ := write_ways2 ui 8 ((f : Int) == 3) lui uui
  obtain ⟨s2, k2, z2, y2, f2, a2, r2⟩ := write_ways2 gi 8 ((f : Int) == 3) lgi ugi
  obtain ⟨s3, k3, z3, y3, f3, a3, r3⟩ := write_ways2 sz 12 ((f : Int) == 3) lsz usz
  obtain ⟨s4, k4, z4, y4, f4, a4, r4⟩ := write_ways2 tm 12 ((f : Int) == 3) ltm utm
  obtain ⟨s5, k5, z5, y5, f5, a5, r5⟩ := write_ways2 ma 8 ((f : Int) == 3) lma uma
  obtain ⟨s6, k6, z6, y6, f6, a6, r6⟩ := write_ways2 mi 8 ((f : Int) == 3) lmi umi
  have hC : ∀ w, HasMax w → ∀ W0 B, Below w.heap.size w W0 → w.heap.size + 1 < B → W0.heap[w.heap.size]? = some (.cells #[.int .i64 f] 3 (0, 0)) → TextC W0 B nm 100 (if fitS nm 100 = true then padV nm 100 else ⟨#[]⟩) (!fitS nm 100) ∧ TextC W0 B lk 100 (if fitS lk 100 = true then padV lk 100 else ⟨#[]⟩) (!fitS lk 100) ∧ TextC W0 B us 32 (if fitS us 32 = true then padV us 32 else ⟨#[]⟩) (!fitS us 32) ∧ TextC W0 B gr 32 (if fitS gr 32 = true then padV gr 32 else ⟨#[]⟩) (!fitS gr 32) ∧ TextC W0 B fr 155 (if fitS fr 155 = true then padV fr 155 else ⟨#[]⟩) (!fitS fr 155) ∧ NumC W0 w.heap.size B md 8 s0 (!(k0 == 0)) ∧ NumC W0 w.heap.size B ui 8 s1 (!(k1 == 0)) ∧ NumC W0 w.heap.size B gi 8 s2 (!(k2 == 0)) ∧ NumC W0 w.heap.size B sz 12 s3 (!(k3 == 0)) ∧ NumC W0 w.heap.size B tm 12 s4 (!(k4 == 0)) ∧ NumC W0 w.heap.size B ma 8 s5 (!(k5 == 0)) ∧ NumC W0 w.heap.size B mi 8 s6 (!(k6 == 0)) := fun w hm W0 B hW hB ha => by
    have hM : ∀ w', Below B W0 w' → HasMax w' := fun w' h => hm.below (Below.trans (B := w.heap.size) hW (below_le (by omega) h)) (Nat.le_refl _)
    exact ⟨textC W0 B nm 100 (by omega) (by omega) hM, textC W0 B lk 100 (by omega) (by omega) hM, textC W0 B us 32 (by omega) (by omega) hM, textC W0 B gr 32 (by omega) (by omega) hM, textC W0 B fr 155 (by omega) (by omega) hM, numC W0 _ B md 8 f k0 s0 (by omega) ha r0, numC W0 _ B ui 8 f k1 s1 (by omega) ha r1, numC W0 _ B gi 8 f k2 s2 (by omega) ha r2, numC W0 _ B sz 12 f k3 s3 (by omega) ha r3, numC W0 _ B tm 12 f k4 s4 (by omega) ha r4, numC W0 _ B ma 8 f k5 s5 (by omega) ha r5, numC W0 _ B mi 8 f k6 s6 (by omega) ha r6⟩
  have ref := fun w hm => refHW_oth nm lk us gr fr kd md ui gi sz tm ma mi f w hf1 hf4 (by simpa using n1) (by simpa using n3) (by omega) hk1 (by simp; omega) _ _ _ _ _ s0 s1 s2 s3 s4 s5 s6 (magicV f) _ _ _ _ _ _ _ _ _ _ _ _ (pad_le nm 100 (by omega)) (pad_le lk 100 (by omega)) (pad_le us 32 (by omega)) (pad_le gr 32 (by omega)) (pad_le fr 155 (by omega)) z0 z1 z2 z3 z4 z5 z6 (magic_le f) rfl (hC w hm)
  have hc : ∀ k, k < 7 → ∀ w, Calls Tryz.prog 120 #[.int .i64 ((N7 md ui gi sz tm ma mi) k), .int .i64 (nLongI k), .bool ((f : Int) == 3)] w fun e w' => e = .returned (.tuple #[.string ((T7 s0 s1 s2 s3 s4 s5 s6) k), errOf ((N7 k0 k1 k2 k3 k4 k5 k6) k)]) ∧ Ext w w' := fun k hk => by
    rcases (show k = 0 ∨ k = 1 ∨ k = 2 ∨ k = 3 ∨ k = 4 ∨ k = 5 ∨ k = 6 by omega) with rfl | rfl | rfl | rfl | rfl | rfl | rfl
    · exact a0
    · exact a1
    · exact a2
    · exact a3
    · exact a4
    · exact a5
    · exact a6
  have hz : ∀ k, ((T7 s0 s1 s2 s3 s4 s5 s6) k).size ≤ 20 := fun k => by
    match k with
    | 0 => exact z0
    | 1 => exact z1
    | 2 => exact z2
    | 3 => exact z3
    | 4 => exact z4
    | 5 => exact z5
    | _ + 6 => exact z6
  have hz' : ∀ k, k < 7 → (N7 k0 k1 k2 k3 k4 k5 k6) k = 0 → ((T7 s0 s1 s2 s3 s4 s5 s6) k).size = nLong k := fun k hk hk0 => by
    rcases (show k = 0 ∨ k = 1 ∨ k = 2 ∨ k = 3 ∨ k = 4 ∨ k = 5 ∨ k = 6 by omega) with rfl | rfl | rfl | rfl | rfl | rfl | rfl
    · exact Int.ofNat.inj (y0 hk0)
    · exact Int.ofNat.inj (y1 hk0)
    · exact Int.ofNat.inj (y2 hk0)
    · exact Int.ofNat.inj (y3 hk0)
    · exact Int.ofNat.inj (y4 hk0)
    · exact Int.ofNat.inj (y5 hk0)
    · exact Int.ofNat.inj (y6 hk0)
  have hX : ∀ k, ((X5 nm lk us gr fr) k).size ≤ 100000 := fun k => by
    match k with
    | 0 => exact Nat.le_trans hnm (by decide)
    | 1 => exact Nat.le_trans hlk (by decide)
    | 2 => exact Nat.le_trans hus (by decide)
    | 3 => exact Nat.le_trans hgr (by decide)
    | _ + 4 => exact Nat.le_trans hfr (by decide)
  have code := fun V hv1 hv2 hv3 w => headWr (X5 nm lk us gr fr) (T7 s0 s1 s2 s3 s4 s5 s6) (N7 md ui gi sz tm ma mi) (N7 k0 k1 k2 k3 k4 k5 k6) kd f 7 (by rw [if_neg n1]) hf1 hf4 hk0 hk1 hX (fitsV_other n1 n3 _ _ _ _ _) hz hz' hc V hv1 hv2 hv3 w
  clear hc hz hX hC
  cases hfl : ((((((((((((false || (!fitS nm 100)) || (!(k0 == 0))) || (!(k1 == 0))) || (!(k2 == 0))) || (!(k3 == 0))) || (!(k4 == 0))) || (!fitS lk 100)) || (!fitS us 32)) || (!fitS gr 32)) || (!(k5 == 0))) || (!(k6 == 0))) || (!fitS fr 155)) with
  | true =>
    exfalso
    rw [p0, p1, p2, p3, p4, f0 o0, f1 o1, f2 o2, f3 o3, f4 o4, f5 o5, f6 o6] at hfl
    exact absurd hfl (by decide)
  | false =>
    have hand : fitS nm 100 = true ∧ fitS lk 100 = true ∧ fitS us 32 = true ∧ fitS gr 32 = true ∧ fitS fr 155 = true ∧ k0 = 0 ∧ k1 = 0 ∧ k2 = 0 ∧ k3 = 0 ∧ k4 = 0 ∧ k5 = 0 ∧ k6 = 0 := by
      simp only [Bool.or_eq_false_iff, Bool.not_eq_false', beq_iff_eq] at hfl
      obtain ⟨⟨⟨⟨⟨⟨⟨⟨⟨⟨⟨⟨_, h0⟩, j0⟩, j1⟩, j2⟩, j3⟩, j4⟩, h1⟩, h2⟩, h3⟩, j5⟩, j6⟩, h4⟩ := hfl
      exact ⟨h0, h1, h2, h3, h4, j0, j1, j2, j3, j4, j5, j6⟩
    obtain ⟨e0, e1, e2, e3, e4, g0, g1, g2, g3, g4, g5, g6⟩ := hand
    obtain ⟨w1, w2, w3⟩ := rowZ_mg nm lk us gr fr s0 s1 s2 s3 s4 s5 s6 f kd n1 e0 e1 e2 e3 e4 (Int.ofNat.inj (y0 g0)) (Int.ofNat.inj (y1 g1)) (Int.ofNat.inj (y2 g2)) (Int.ofNat.inj (y3 g3)) (Int.ofNat.inj (y4 g4)) (Int.ofNat.inj (y5 g5)) (Int.ofNat.inj (y6 g6))
    have hf5 : ∀ k, k < 5 → fitS ((X5 nm lk us gr fr) k) (tLong k) = true := fun k hk => by
      rcases (show k = 0 ∨ k = 1 ∨ k = 2 ∨ k = 3 ∨ k = 4 by omega) with rfl | rfl | rfl | rfl | rfl
      · exact e0
      · exact e1
      · exact e2
      · exact e3
      · exact e4
    have hk7 : ∀ k, k < 7 → (N7 k0 k1 k2 k3 k4 k5 k6) k = 0 := fun k hk => by
      rcases (show k = 0 ∨ k = 1 ∨ k = 2 ∨ k = 3 ∨ k = 4 ∨ k = 5 ∨ k = 6 by omega) with rfl | rfl | rfl | rfl | rfl | rfl | rfl
      · exact g0
      · exact g1
      · exact g2
      · exact g3
      · exact g4
      · exact g5
      · exact g6
    refine ⟨sealS (headS kd z16V false (padV nm 100) (padV lk 100) (padV us 32) (padV gr 32) (padV fr 155) s0 s1 s2 s3 s4 s5 s6 (magicV f)), sealS_size _ (sumE_size w3), fun w _ => code _ (fun k hk h => ?_) (fun k hk h => absurd (hk7 k hk) h) (fun _ _ => ?_) w, fun w hm => ?_⟩
    · rw [hf5 k hk] at h
      cases h
    · rw [w1, w2]
    · have r := ref w hm
      rw [hfl, if_neg (by decide), if_pos e0, if_pos e1, if_pos e2, if_pos e3, if_pos e4, w3] at r
      exact r
end Go.Proofs.YtnbcbipigiopbaaGreatDoor
/-
  The header of the records that count for all: stream.globalHead and the reference's. No conditions but the arguments' bounds.
-/
namespace Go.Proofs.YtnbcbipigiopbaaGreatDoor
open Go.RowKit Go.WideShapes

def globNm : ByteArray := ⟨#[71, 108, 111, 98, 97, 108, 72, 101, 97, 100]⟩
theorem globNm_split : splitV globNm = .tuple #[.string ⟨#[]⟩, .string globNm, .bool true] := by kernel_rfl
set_option maxHeartbeats 1600000 in
set_option maxRecDepth 100000 in
theorem glob_of (bs h : ByteArray) (hbs : bs.size ≤ 90000) (hh : h.size = 512)
    (c1 : ∀ w, Calls Tryz.prog 59 #[.agg #[.string ⟨#[]⟩, .string ⟨#[]⟩, .string (⟨#[]⟩ : ByteArray), .string (⟨#[]⟩ : ByteArray), .string ⟨#[]⟩, .int .u8 103, .int .i64 0, .int .i64 0, .int .i64 0, .int .i64 (bs.size : Int), .int .i64 0, .int .i64 0, .int .i64 0], .int .i64 4, .string globNm] w fun e w' => e = .returned (.tuple #[.agg #[.string globNm, .string ⟨#[]⟩, .string ⟨#[]⟩, .string ⟨#[]⟩, .string ⟨#[]⟩, .int .u8 103, .int .i64 0, .int .i64 0, .int .i64 0, .int .i64 (bs.size : Int), .int .i64 0, .int .i64 0, .int .i64 0], .bool true]) ∧ Ext w w')
    (c2 : ∀ w, HasMax w → Calls Tryz.prog 60 #[.int .i64 4, .agg #[.string globNm, .string ⟨#[]⟩, .string ⟨#[]⟩, .string ⟨#[]⟩, .string ⟨#[]⟩, .int .u8 103, .int .i64 0, .int .i64 0, .int .i64 0, .int .i64 (bs.size : Int), .int .i64 0, .int .i64 0, .int .i64 0]] w fun e w' => e = .returned (.tuple #[.string h, .nilIface]) ∧ Ext w w') (w : World) (hm : HasMax w) :
    Calls Tryz.prog 28 #[.string bs] w fun e w' => e = .returned (.tuple #[.string (wrnV 0 h bs), .nilIface]) ∧ Ext w w' := by
  have C1 := Lib.hid c1
  have C2 := Lib.hid c2
  have C3 := Lib.hid (fun w => fill_any bs (by omega) w)
  have hp := padB_size bs.size
  have hz : ((bs.size : Nat) : Int) ≤ 90000 := by omega
  rw [wrnV_good h bs rfl]
  clear c1 c2
  generalize padB bs.size = p at *
  go_enter Tryz.func28, Tryz.ntmps28
  go_wp2_with fail
  refine (C1.out _).mono ?_; rintro e w1 ⟨rfl, hx1⟩
  go_wp2_with fail
  have hy1 : Ext w (w1.alloc (.cells #[.string globNm, .string ⟨#[]⟩, .string ⟨#[]⟩, .string ⟨#[]⟩, .string ⟨#[]⟩, .int .u8 103, .int .i64 0, .int .i64 0, .int .i64 0, .int .i64 (bs.size : Int), .int .i64 0, .int .i64 0, .int .i64 0] 76)) := hx1.alloc _
  refine (C2.out _ (hm.ext hy1)).mono ?_; rintro e w2 ⟨rfl, hx2⟩
  go_wp2_with fail
  refine (C3.out _).mono ?_; rintro e w3 ⟨rfl, hx3⟩
  go_wp2_with fail
  go_ret2
  exact ⟨rfl, (hy1.trans hx2).trans hx3⟩

/-- Both sides. -/
theorem glob_both (bs : ByteArray) (hbs : bs.size ≤ 90000) : ∃ h : ByteArray, h.size = 512 ∧ (∀ w, HasMax w → Calls Tryz.prog 28 #[.string bs] w fun e w' => e = .returned (.tuple #[.string (wrnV 0 h bs), .nilIface]) ∧ Ext w w') ∧
    (∀ w, HasMax w → Calls Tryz.prog 23 #[.int .i64 4, .agg #[.string ⟨#[]⟩, .string ⟨#[]⟩, .string (⟨#[]⟩ : ByteArray), .string (⟨#[]⟩ : ByteArray), .string ⟨#[]⟩, .int .u8 103, .int .i64 0, .int .i64 0, .int .i64 0, .int .i64 (bs.size : Int), .int .i64 0, .int .i64 0, .int .i64 0], .string globNm, .string ⟨#[]⟩, .string bs] w fun e w' => e = .returned (.tuple #[.string (wrnV 0 h bs), .int .i64 0]) ∧ Ext w w') := by
  have e0 : fitS ⟨#[]⟩ 100 = true := by decide +kernel
  have e1 : fitS ⟨#[]⟩ 32 = true := by decide +kernel
  have e2 : octE 0 8 = 0 := by decide +kernel
  have e3 : octE 0 12 = 0 := by decide +kernel
  have e4 : fitS globNm 100 = true := by decide +kernel
  have e5 : fitS ⟨#[]⟩ 155 = true := by decide +kernel
  obtain ⟨h, hh, a, r⟩ := good_oth globNm ⟨#[]⟩ ⟨#[]⟩ ⟨#[]⟩ ⟨#[]⟩ 103 0 0 0 (bs.size : Int) 0 0 0 4 (by decide) (by decide) (by decide) (by decide) (by decide) (by decide) (by decide) (by decide) (by decide) (by decide) (by decide) (by decide) (by decide) (by decide) (by decide) (by decide) (by decide) (by omega) (by omega) (by decide) (by decide) (by decide) (by decide) (by decide) (by decide) e4 e0 e1 e1 e5 e2 e2 e2 (octM12 (by omega) (by omega)) e3 e2 e2
  have n1 := fun lk w => named_any ⟨#[]⟩ lk ⟨#[]⟩ ⟨#[]⟩ ⟨#[]⟩ 103 0 0 0 (bs.size : Int) 0 0 0 w 4 globNm ⟨#[]⟩ globNm true (by decide) globNm_split
  have n2 := fun lk w => refNamed_any ⟨#[]⟩ lk ⟨#[]⟩ ⟨#[]⟩ ⟨#[]⟩ 103 0 0 0 (bs.size : Int) 0 0 0 w 4 globNm ⟨#[]⟩ globNm true (by decide) globNm_split
  simp only at n1 n2
  exact ⟨h, hh, fun w hm => glob_of bs h hbs hh (n1 ⟨#[]⟩) a w hm, fun w hm => whole_of 4 ⟨#[]⟩ ⟨#[]⟩ 103 0 0 0 (bs.size : Int) 0 0 0 globNm ⟨#[]⟩ bs globNm ⟨#[]⟩ h true 0 (fun h => absurd h (by decide)) (fun _ => hh) hbs (n2 ⟨#[]⟩) (fun _ => r) w hm⟩
end Go.Proofs.YtnbcbipigiopbaaGreatDoor
