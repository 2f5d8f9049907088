/-
  The law HeadWrites holds: head.Write returns what the reference returns for any header in any form. No conditions.
-/
import Derived.Test.YtjibcfggpfljhaaDoorHeadWays
import Derived.Test.YtjibcfggpfljhaaDoorRawA
import Derived.Test.YtjibcfggpfljhaaDoorFrameB
import Derived.Test.YtjibcfggpfljhaaDoorWit
namespace Go.Proofs.YtjibcfggpfljhaaDoor.headWrites
open Go.ChangeShapes Go.WideShapes Go.ChangeAt Go.RowKit
open Go.ChangeMaps (open_string shut_string)

theorem bcell {W w1 : World} (h : Ext W w1) : (∀ b o, b < W.heap.size → w1.cell? ⟨b, o, none⟩ = W.cell? ⟨b, o, none⟩) ∧ (∀ b o, b < W.heap.size → w1.frozen? ⟨b, o, none⟩ = W.frozen? ⟨b, o, none⟩) :=
  ⟨fun b o hb => h.cells b o hb, fun b o hb => h.frozens b o hb⟩
set_option maxHeartbeats 1600000 in
set_option maxRecDepth 100000 in
theorem law (nm lk us gr fr : ByteArray) (kd md ui gi sz tm ma mi f : Int) (b1 : nm.size ≤ 140737488351232) (b2 : lk.size ≤ 140737488351232) (b3 : us.size ≤ 140737488351232) (b4 : gr.size ≤ 140737488351232) (b5 : fr.size ≤ 140737488351232)
    (W : ∀ (_ : nm.size ≤ 1000) (_ : lk.size ≤ 1000) (_ : us.size ≤ 1000) (_ : gr.size ≤ 1000) (_ : fr.size ≤ 1000), ∃ (s : ByteArray) (k : Int),
    (∀ w, HasMax w → Calls Tryd.prog 10 #[.int .i64 f, .agg #[.string nm, .string lk, .string us, .string gr, .string fr, .int .u8 kd, .int .i64 md, .int .i64 ui, .int .i64 gi, .int .i64 sz, .int .i64 tm, .int .i64 ma, .int .i64 mi]] w fun e w' => e = .returned (.tuple #[.string s, errOf k]) ∧ Ext w w') ∧
    (∀ w, HasMax w → Calls Tryd.prog 9 #[.int .i64 f, .agg #[.string nm, .string lk, .string us, .string gr, .string fr, .int .u8 kd, .int .i64 md, .int .i64 ui, .int .i64 gi, .int .i64 sz, .int .i64 tm, .int .i64 ma, .int .i64 mi]] w fun e w' => e = .returned (.tuple #[.string s, .int .i64 k]) ∧ Ext w w')) (w : World) (hg : HasHandle w) (hm : HasMax w) :
    Calls Tryd.prog 4 #[.int .i64 f, .agg #[.string nm, .string lk, .string us, .string gr, .string fr, .int .u8 kd, .int .i64 md, .int .i64 ui, .int .i64 gi, .int .i64 sz, .int .i64 tm, .int .i64 ma, .int .i64 mi]] w fun e w' => e = .returned (.bool true) ∧ Ext w w' := by
  have Ht := Lib.hid (fun w => thick_any nm lk us gr fr kd md ui gi sz tm ma mi w b1 b2 b3 b4 b5)
  have Hr := Lib.hid (fun w => rawOf_any nm lk us gr fr kd md ui gi sz tm ma mi w)
  by_cases ht : 900 < (nm.size : Int) + lk.size + us.size + gr.size + fr.size
  · rw [decide_eq_true ht] at Ht
    clear ht W
    go_enter Tryd.func4, Tryd.ntmps4
    go_wp2_with fail
    refine (Ht.out _).mono ?_; rintro e w1 ⟨rfl, hx1⟩
    go_wp2_with fail
    go_ret
    exact ⟨rfl, Ext.trans ((Ext.refl w).alloc _) hx1⟩
  · rw [decide_eq_false ht] at Ht
    obtain ⟨s, k, c1, c2⟩ := W (by omega) (by omega) (by omega) (by omega) (by omega)
    have C1 := Lib.hid c1
    have C2 := Lib.hid c2
    clear ht W c1 c2 b1 b2 b3 b4 b5
    have hx0 : Ext w (w.alloc (.cells #[.string nm, .string lk, .string us, .string gr, .string fr, .int .u8 kd, .int .i64 md, .int .i64 ui, .int .i64 gi, .int .i64 sz, .int .i64 tm, .int .i64 ma, .int .i64 mi] 32)) := (Ext.refl w).alloc _
    go_enter Tryd.func4, Tryd.ntmps4
    go_wp2_with fail
    refine (Ht.out _).mono ?_; rintro e w1 ⟨rfl, hx1⟩
    obtain ⟨hcl1, hfz1⟩ := bcell hx1
    have hy1 := hx0.trans hx1
    have hz1 := hx1.size
    have hz1 : w.heap.size < w1.heap.size := by simp only [World.size_alloc] at hz1; omega
    go_wp2_with fail
    refine (C2.out _ (hm.ext hy1)).mono ?_; rintro e w2 ⟨rfl, hx2⟩
    obtain ⟨hcl2, hfz2⟩ := bcell hx2
    have hz2 : w.heap.size < w2.heap.size := by have := hx2.size; omega
    go_wp2_with fail
    refine (Hr.out _).mono ?_; rintro e w3 ⟨rfl, hx3⟩
    have hy3 := (hy1.trans hx2).trans hx3
    go_wp2_with fail
    refine (C1.out _ (hm.ext hy3)).mono ?_; rintro e w4 ⟨rfl, hx4⟩
    have hy4 := hy3.trans hx4
    go_wp2_with fail
    refine (bare_any _ _ _ (hg.ext hy4)).mono ?_; rintro e w5 ⟨rfl, hx5⟩
    go_wp2_with fail
    go_ret
    exact ⟨ret_bool (by simp), hy4.trans hx5⟩

set_option maxRecDepth 100000 in
theorem walk : Frame.WalksP Rows.headWritesRow.laid 4 Tryd.f4 := by
  intro H enc W base args ds p hL hSh hval hA hsz
  have hg := Frame.handle_of_laidB rfl hL
  have hm := HasMax.ofShaped hSh
  rw [Tryd.params4] at hA hval hsz
  obtain ⟨v0, v1, d0, d1, p0, p1, rfl, rfl, rfl, h0, h1⟩ := trodAll_two hA
  obtain ⟨f, rfl, rfl, rfl, wd⟩ := open_int Tryd.underlying3 (hval 0 3 v0 rfl rfl) h0
  obtain ⟨nm, lk, us, gr, fr, kd, md, ui, gi, sz, tm, ma, mi, rfl, b1, b2, b3, b4, b5, wk, w6, w7, w8, w9, wa, wb, wc⟩ := arg_raw (hval 1 32 v1 rfl rfl) h1 hsz (j := 1) rfl rfl
  have k := bounds_u8 wk
  have m6 := bounds_i64 w6
  have m7 := bounds_i64 w7
  have m8 := bounds_i64 w8
  have m9 := bounds_i64 w9
  have ma' := bounds_i64 wa
  have mb := bounds_i64 wb
  have mc := bounds_i64 wc
  exact law nm lk us gr fr kd md ui gi sz tm ma mi f b1 b2 b3 b4 b5 (fun c1 c2 c3 c4 c5 => head_ways nm lk us gr fr kd md ui gi sz tm ma mi f c1 c2 c3 c4 c5 k.1 (by omega) m6.1 m6.2 m7.1 m7.2 m8.1 m8.2 m9.1 m9.2 ma'.1 ma'.2 mb.1 mb.2 mc.1 mc.2) W hg hm

/-! ### The row and the card -/
theorem plain : Frame.Plain Rows.headWritesSpec Tryd.f4 := by
  refine ⟨rfl, fun H ds h => ?_⟩
  rw [Tryd.params4] at h
  match ds, h with
  | [_, _], _ => rfl
theorem read : ∀ t ∈ Tryd.f4.params.toList, Tryd.prog.readableRec t = true ∧ t < Tryd.prog.types.size := by
  rw [Tryd.params4]
  intro t ht
  simp at ht
  rcases ht with rfl | rfl
  all_goals exact ⟨by kernel_rfl, of_decide_eq_true (by kernel_rfl)⟩
theorem reads (os : Os) {H : Type} (enc : TypeId × Value → H) : ∃ places, DataW.whole enc Tryd.prog ((Frame.bothWorld os Rows.headWritesRow.laid).forCall (fun _ _ => 0) ⟨#[], #[.int .i64 0, .agg #[.string ⟨#[]⟩, .string ⟨#[]⟩, .string ⟨#[]⟩, .string ⟨#[]⟩, .string ⟨#[]⟩, .int .u8 0, .int .i64 0, .int .i64 0, .int .i64 0, .int .i64 0, .int .i64 0, .int .i64 0, .int .i64 0]], []⟩).memory Tryd.f4.params.toList Rows.headWritesSpec.vars false (#[.int .i64 0, .agg #[.string ⟨#[]⟩, .string ⟨#[]⟩, .string ⟨#[]⟩, .string ⟨#[]⟩, .string ⟨#[]⟩, .int .u8 0, .int .i64 0, .int .i64 0, .int .i64 0, .int .i64 0, .int .i64 0, .int .i64 0, .int .i64 0]] : Array Value).toList 8 = some ([.lit (.int .i64 0), .agg [.lit (.string []), .lit (.string []), .lit (.string []), .lit (.string []), .lit (.string []), .lit (.int .u8 0), .lit (.int .i64 0), .lit (.int .i64 0), .lit (.int .i64 0), .lit (.int .i64 0), .lit (.int .i64 0), .lit (.int .i64 0), .lit (.int .i64 0)]], [], places) :=
  ⟨[], by kernel_rfl⟩
set_option maxRecDepth 100000 in
theorem lifted (os : Os) (started : os.Started) (H : Type) (enc : TypeId × Value → H) (Fi : Stop.Interp) :
    ReturnsInHanded {} Tryd.checked os 4 .any ((OpenSpec.ofChange Rows.headWritesSpec).preRow enc Tryd.prog Tryd.f4 Rows.headWritesRow.domain false Rows.headWritesRow.laid) (((OpenSpec.ofChange Rows.headWritesSpec).at Fi).post enc Tryd.prog Tryd.f4 false true false false) := by
  obtain ⟨places, hx⟩ := reads os enc
  exact Frame.liftedP Tryd.func4 (by kernel_rfl) plain (by kernel_rfl) read walk os started H enc Fi
    (Frame.witness_zip (enc := enc) (C := Tryd.checked) false (Frame.bothWorld os Rows.headWritesRow.laid) #[.int .i64 0, .agg #[.string ⟨#[]⟩, .string ⟨#[]⟩, .string ⟨#[]⟩, .string ⟨#[]⟩, .string ⟨#[]⟩, .int .u8 0, .int .i64 0, .int .i64 0, .int .i64 0, .int .i64 0, .int .i64 0, .int .i64 0, .int .i64 0]] rfl (by kernel_rfl) (by kernel_rfl) (by kernel_rfl)
      (OpenSpec.preRow_of_cond 8 hx (by kernel_rfl) (fun k hk => by cases hk) (by kernel_rfl) (Frame.bothWorld_met _ (by kernel_rfl) (by kernel_rfl) (by kernel_rfl))))
set_option maxRecDepth 100000 in
theorem said : Rows.HeadWritesSaid :=
  OpenClaim.holds_of_cond 4 Tryd.f4 rfl rfl rfl rfl rfl rfl rfl ⟨rfl, rfl, rfl, rfl, rfl⟩ rfl rfl rfl rfl rfl (by kernel_rfl) Tryd.func4 (by kernel_rfl)
    (of_decide_eq_true (by kernel_rfl)) (by unfold Func.isWrapper; first | (rw [if_pos (by decide +kernel)]; kernel_rfl) | (rw [if_neg (by decide +kernel)]; exact ⟨rfl, rfl⟩))
    (fun os started H enc _ F => by rw [OpenClaim.pre_eq_preRow]; exact lifted os started H enc F)
theorem looks (f : FuncId) (fn : Func) (hf : Tryd.pinned.checked.prog.funcNamed "revetment/revetmentlaw.HeadWrites" = some f) (hfn : Tryd.pinned.checked.prog.funcs[f]? = some fn) :
    Rows.headWritesCard.stood.looks = Tryd.pinned.checked.prog.looks [] ∧ ∀ (j : Nat) t, fn.params[j]? = some t → Tryd.pinned.checked.prog.wantsStandIn t = false := by
  obtain rfl : f = 4 := Option.some.inj ((show Tryd.prog.funcNamed "revetment/revetmentlaw.HeadWrites" = some 4 by kernel_rfl).symm.trans hf) |>.symm
  obtain rfl : fn = Tryd.f4 := (Option.some.inj (Tryd.func4.symm.trans hfn)).symm
  refine ⟨by kernel_rfl, fun j t ht => ?_⟩
  rw [Tryd.params4] at ht
  have ht' := Array.mem_of_getElem? ht
  simp at ht'
  rcases ht' with rfl | rfl
  · exact (show Tryd.prog.wantsStandIn 3 = false by kernel_rfl)
  · exact (show Tryd.prog.wantsStandIn 32 = false by kernel_rfl)
theorem headWrites_holds : Rows.HeadWritesCardSaid :=
  Claim7.holds_tied_plain_at .later [] _ _ _ _ said (fun _ h => by cases h) (by kernel_rfl) (fun _ h => by cases h) headWrites_row_tie rfl ⟨rfl, rfl⟩ (by kernel_rfl) rfl looks (by kernel_rfl)
#print axioms headWrites_holds
end Go.Proofs.YtjibcfggpfljhaaDoor.headWrites
