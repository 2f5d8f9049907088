/-
  The law HeadNameds holds: Named returns what the reference returns for any header and name. No conditions.
-/
import Derived.Test.YtahibbijekfjiaaNamed
namespace Go.Proofs.Ytahibbijekfjiaa.headNameds
open Go.ChangeShapes Go.WideShapes Go.ChangeAt Go.RowKit
open Go.ChangeMaps (open_string shut_string)

set_option maxHeartbeats 1600000 in
theorem law (d : Int) (nm lk us gr fr s : ByteArray) (kd md ui gi sz tm ma mi : Int) (h1 : nm.size ≤ 140737488351232) (h2 : lk.size ≤ 140737488351232) (h3 : us.size ≤ 140737488351232) (h4 : gr.size ≤ 140737488351232) (h5 : fr.size ≤ 140737488351232)
    (hs : s.size ≤ 140737488351232) (w : World) : Calls Try.prog 13 #[.int .i64 d, .agg #[.string nm, .string lk, .string us, .string gr, .string fr, .int .u8 kd, .int .i64 md, .int .i64 ui, .int .i64 gi, .int .i64 sz, .int .i64 tm, .int .i64 ma, .int .i64 mi], .string s] w fun e w' => e = .returned (.bool true) ∧ Ext w w' := by
  have ht := fun w => thick_any nm lk us gr fr kd md ui gi sz tm ma mi w h1 h2 h3 h4 h5
  by_cases h : 900 < (nm.size : Int) + lk.size + us.size + gr.size + fr.size
  · simp only [h, decide_true] at ht
    have Ht := Lib.hid ht
    clear ht h
    go_enter Try.func13, Try.ntmps13
    go_wp2_with fail
    refine (Ht.out _).mono ?_; rintro e w1 ⟨rfl, hx1⟩
    go_wp2_with fail
    go_ret
    exact ⟨ret_bool (by simp), Ext.trans (by show Below _ _ _; repeat' (first | (with_reducible exact Below.refl _ _) | (with_reducible assumption) | (with_reducible refine belowDrewN ?_ _) | (with_reducible refine Below.alloc ?_ ?_ _) | (with_reducible refine Below.drew ?_) | (with_reducible refine Below.setCell ?_ ?_ _) | go_size)) hx1⟩
  · simp only [h, decide_false] at ht
    have Ht := Lib.hid ht
    clear ht h
    by_cases h400 : 400 < s.size
    · go_enter Try.func13, Try.ntmps13
      go_wp2_with fail
      refine (Ht.out _).mono ?_; rintro e w1 ⟨rfl, hx1⟩
      go_wp2_with fail
      go_ret
      exact ⟨ret_bool (by simp), Ext.trans (by show Below _ _ _; repeat' (first | (with_reducible exact Below.refl _ _) | (with_reducible assumption) | (with_reducible refine belowDrewN ?_ _) | (with_reducible refine Below.alloc ?_ ?_ _) | (with_reducible refine Below.drew ?_) | (with_reducible refine Below.setCell ?_ ?_ _) | go_size)) hx1⟩
    · have h400' : s.size ≤ 400 := by omega
      clear h400
      obtain ⟨a, b, c, hv⟩ := splitV_form s
      have hn : ∃ (x y : ByteArray) (z : Bool), (if d = 2 ∨ d = 4 then Value.tuple #[.agg #[.string b, .string lk, .string us, .string gr, .string a, .int .u8 kd, .int .i64 md, .int .i64 ui, .int .i64 gi, .int .i64 sz, .int .i64 tm, .int .i64 ma, .int .i64 mi], .bool c] else .tuple #[.agg #[.string s, .string lk, .string us, .string gr, .string ⟨#[]⟩, .int .u8 kd, .int .i64 md, .int .i64 ui, .int .i64 gi, .int .i64 sz, .int .i64 tm, .int .i64 ma, .int .i64 mi], .bool (decide (s.size ≤ 100))]) = .tuple #[.agg #[.string x, .string lk, .string us, .string gr, .string y, .int .u8 kd, .int .i64 md, .int .i64 ui, .int .i64 gi, .int .i64 sz, .int .i64 tm, .int .i64 ma, .int .i64 mi], .bool z] := by
        split
        · exact ⟨_, _, _, rfl⟩
        · exact ⟨_, _, _, rfl⟩
      obtain ⟨x, y, z, hn⟩ := hn
      have c1 := fun w => named_any nm lk us gr fr kd md ui gi sz tm ma mi w d s a b c (by omega) hv
      have c2 := fun w => refNamed_any nm lk us gr fr kd md ui gi sz tm ma mi w d s a b c (by omega) hv
      rw [hn] at c1 c2
      have C1 := Lib.hid c1
      have C2 := Lib.hid c2
      clear c1 c2 hn hv
      go_enter Try.func13, Try.ntmps13
      go_wp2_with fail
      refine (Ht.out _).mono ?_; rintro e w1 ⟨rfl, hx1⟩
      obtain ⟨hcl1, hfz1⟩ := bcell hx1
      have hz1 := hx1.size
      have hz1 : w.heap.size < w1.heap.size := by simp only [World.size_alloc] at hz1; omega
      go_wp2_with fail
      refine (C2.out _).mono ?_; rintro e w2 ⟨rfl, hx2⟩
      obtain ⟨hcl2, hfz2⟩ := bcell hx2
      have hz2 : w.heap.size < w2.heap.size := by have := hx2.size; omega
      have hz2n : w.heap.size ≠ w2.heap.size := by omega
      go_wp2_with fail
      refine (rawOf_any nm lk us gr fr kd md ui gi sz tm ma mi _).mono ?_; rintro e w3 ⟨rfl, hx3⟩
      obtain ⟨hcl3, hfz3⟩ := bcell hx3
      have hz3 : w2.heap.size < w3.heap.size := by have := hx3.size; simp only [World.size_alloc] at this; omega
      have hz3' : w.heap.size < w3.heap.size := by omega
      go_wp2_with fail
      refine (C1.out _).mono ?_; rintro e w4 ⟨rfl, hx4⟩
      obtain ⟨hcl4, hfz4⟩ := bcell hx4
      have hz4 : w3.heap.size ≤ w4.heap.size := hx4.size
      have hz4' : w2.heap.size < w4.heap.size := by omega
      have hz4n : w2.heap.size ≠ w4.heap.size := by omega
      go_wp2_with fail
      refine wp_region_det (Stood _) (by kernel_rfl) (by kernel_rfl) (Stood.start _) ?_
      repeat (first
        | (refine det_skip (by rfl) ?_; simp only [Act.put, List.setIfInBounds_toArray, List.set_cons_zero, List.set_cons_succ])
        | (refine det_op (v := ?_) rfl (by rfl) (fun w' hS => ?_) ?_; rotate_left; (focus (obtain ⟨hcl, hxt⟩ := hS; go_wp2_with (first | ((with_reducible refine (rawOf_any x lk us gr y kd md ui gi sz tm ma mi _).mono ?_); rintro e w1 ⟨rfl, hx1⟩)); (first | refine ⟨?_, rfl, hcl, hxt⟩ | refine ⟨?_, rfl, Stood.of (hxt.trans (by assumption))⟩); rfl)); simp only [Act.put, List.setIfInBounds_toArray, List.set_cons_zero, List.set_cons_succ]))
      refine det_end ?_
      intro w5 hS
      have hx := hS.2
      clear hS
      go_wp2_with fail
      go_ret
      exact ⟨ret_bool (by simp), Ext.trans (Ext.trans (Ext.trans (Ext.trans (Ext.trans (by show Below _ _ _; repeat' (first | (with_reducible exact Below.refl _ _) | (with_reducible assumption) | (with_reducible refine belowDrewN ?_ _) | (with_reducible refine Below.alloc ?_ ?_ _) | (with_reducible refine Below.drew ?_) | (with_reducible refine Below.setCell ?_ ?_ _) | go_size)) hx1) hx2) (Ext.trans (by show Below _ _ _; repeat' (first | (with_reducible exact Below.refl _ _) | (with_reducible assumption) | (with_reducible refine belowDrewN ?_ _) | (with_reducible refine Below.alloc ?_ ?_ _) | (with_reducible refine Below.drew ?_) | (with_reducible refine Below.setCell ?_ ?_ _) | go_size)) hx3)) hx4) (Ext.trans (by show Below _ _ _; repeat' (first | (with_reducible exact Below.refl _ _) | (with_reducible assumption) | (with_reducible refine belowDrewN ?_ _) | (with_reducible refine Below.alloc ?_ ?_ _) | (with_reducible refine Below.drew ?_) | (with_reducible refine Below.setCell ?_ ?_ _) | go_size)) hx)⟩

theorem walk : Frame.Walks 13 Try.f13 := by
  intro H enc W base args ds p hval hA hsz
  rw [Try.params13] at hA hval hsz
  obtain ⟨v0, v1, v2, d0, d1, d2, p0, p1, p2, rfl, rfl, rfl, h0, h1, h2⟩ := trodAll_three hA
  obtain ⟨d, rfl, rfl, rfl, wd⟩ := open_int Try.underlying3 (hval 0 3 v0 rfl rfl) h0
  obtain ⟨nm, lk, us, gr, fr, kd, md, ui, gi, sz, tm, ma, mi, rfl, b1, b2, b3, b4, b5⟩ := arg_raw (hval 1 30 v1 rfl rfl) h1 hsz (j := 1) rfl rfl
  obtain ⟨s, rfl, rfl, rfl, hs⟩ := open_string Try.underlying9 (hval 2 9 v2 rfl rfl) h2
  have z2 := sized_string hsz (j := 2) (t := 9) rfl rfl
  exact law d nm lk us gr fr s kd md ui gi sz tm ma mi b1 b2 b3 b4 b5 (by simpa [reachBytes] using z2) W

/-! ### The row -/
theorem plain : Frame.Plain Rows.headNamedsSpec Try.f13 := by
  refine ⟨rfl, fun H ds h => ?_⟩
  rw [Try.params13] at h
  match ds, h with
  | [_, _, _], _ => rfl
theorem read : ∀ t ∈ Try.f13.params.toList, Try.prog.readableRec t = true ∧ t < Try.prog.types.size := by
  rw [Try.params13]
  intro t ht
  simp at ht
  rcases ht with rfl | rfl | rfl
  all_goals exact ⟨by kernel_rfl, of_decide_eq_true (by kernel_rfl)⟩
set_option maxRecDepth 100000 in
theorem over : Rows.headNamedsRow.holds Try.pinned (OpenSpec.ofChange Rows.headNamedsSpec) :=
  OpenClaim.holds_of_wide 13 Try.f13 rfl rfl rfl rfl rfl rfl rfl ⟨rfl, rfl, rfl, rfl, rfl⟩ rfl rfl rfl rfl rfl (by kernel_rfl) Try.func13 (by kernel_rfl)
    (of_decide_eq_true (by kernel_rfl)) (by unfold Func.isWrapper; first | (rw [if_pos (by decide +kernel)]; kernel_rfl) | (rw [if_neg (by decide +kernel)]; exact ⟨rfl, rfl⟩))
    (fun os started H enc _ => Frame.lifted Try.func13 (by kernel_rfl) plain (by kernel_rfl) read walk os started H enc
      (ChangeSpec.witness6 (enc := enc) (C := Try.checked) false ⟨#[], #[.int .i64 0, .agg #[.string ⟨#[]⟩, .string ⟨#[]⟩, .string ⟨#[]⟩, .string ⟨#[]⟩, .string ⟨#[]⟩, .int .u8 0, .int .i64 0, .int .i64 0, .int .i64 0, .int .i64 0, .int .i64 0, .int .i64 0, .int .i64 0], .string ⟨#[]⟩], []⟩ 8 (by kernel_rfl) (by kernel_rfl) (by kernel_rfl) (by kernel_rfl)))

theorem headNameds_holds : Rows.HeadNamedsSaid := over
#print axioms headNameds_holds
end Go.Proofs.Ytahibbijekfjiaa.headNameds
