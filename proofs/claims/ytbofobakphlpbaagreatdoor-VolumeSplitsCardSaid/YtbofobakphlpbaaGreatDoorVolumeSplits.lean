/-
  The law VolumeSplits holds: volume.Split returns what the reference returns for any text and number of blocks. No conditions.
-/
import Derived.Test.YtbofobakphlpbaaGreatDoorVolR
import Derived.Test.YtbofobakphlpbaaGreatDoorPlacedL
import Derived.Test.YtbofobakphlpbaaGreatDoorFrameB
import Derived.Test.YtbofobakphlpbaaGreatDoorWit
namespace Go.Proofs.YtbofobakphlpbaaGreatDoor.volumeSplits
open Go.ChangeShapes Go.WideShapes Go.ChangeAt Go.RowKit
open Go.ChangeMaps (open_string shut_string)

set_option maxHeartbeats 1600000 in
set_option maxRecDepth 100000 in
theorem law (s : ByteArray) (b : Int) (hb1 : -9223372036854775808 ≤ b) (hb2 : b ≤ 9223372036854775807) (w : World) (hg : HasHandle w) (hm : HasMax w) :
    Calls Tryz.prog 3 #[.string s, .int .i64 b] w fun e w' => e = .returned (.bool true) ∧ Ext w w' := by
  by_cases h : (12000 < s.size ∧ s.size ≤ 60000) ∨ 60009 < s.size
  · have hq : (decide (12000 < (s.size : Int)) = true ∧ decide ((s.size : Int) ≤ 60000) = true) ∨ (decide (12000 < (s.size : Int)) = true ∧ decide ((s.size : Int) ≤ 60000) = false ∧ decide (60009 < (s.size : Int)) = true) := by
      by_cases h6 : s.size ≤ 60000
      · exact .inl ⟨decide_eq_true (by omega), decide_eq_true (by omega)⟩
      · exact .inr ⟨decide_eq_true (by omega), decide_eq_false (by omega), decide_eq_true (by omega)⟩
    clear h
    rcases hq with ⟨q1, q2⟩ | ⟨q1, q2, q3⟩
    all_goals
      go_enter Tryz.func3, Tryz.ntmps3
      go_wp2_with fail
      go_ret
      exact ⟨rfl, (by show Below _ _ _; repeat' (first | (with_reducible exact Below.refl _ _) | (with_reducible assumption) | (with_reducible refine belowDrewN ?_ _) | (with_reducible refine Below.alloc ?_ ?_ _) | (with_reducible refine Below.drew ?_) | (with_reducible refine Below.setCell ?_ ?_ _) | go_size))⟩
  · obtain ⟨H, HC⟩ := head_vol
    have C2 := Lib.hid (refSplit_any H HC s (by omega) b hb1 hb2 w hm)
    have C1 := Lib.hid (fun w hm => volSplit_any H HC s (by omega) b hb1 hb2 w hm)
    have hq : decide (12000 < (s.size : Int)) = false ∨ (decide (12000 < (s.size : Int)) = true ∧ decide ((s.size : Int) ≤ 60000) = false) := by
      by_cases h6 : 12000 < s.size
      · exact .inr ⟨decide_eq_true (by omega), decide_eq_false (by omega)⟩
      · exact .inl (decide_eq_false (by omega))
    have q3 : decide (60009 < (s.size : Int)) = false := decide_eq_false (by omega)
    clear h HC
    generalize volL H s b = L at *
    generalize volE s.size b = k at *
    rcases hq with q1 | ⟨q1, q2⟩
    all_goals
      go_enter Tryz.func3, Tryz.ntmps3
      go_wp2_with fail
      refine C2.out.mono ?_; rintro e w2 ⟨v, rfl, hS, hx2⟩
      have HS := Lib.hid hS
      clear hS
      go_wp2_with fail
      have hx3 : Ext w2 (w2.alloc (.cells #[.int .i64 k, .int .i64 (-1)] 25)) := (Ext.refl _).alloc _
      refine (C1.out _ (hm.ext (hx2.trans hx3))).mono ?_; rintro e w4 ⟨u, rfl, hU, hx4⟩
      obtain ⟨r1, r2, _, _, r5⟩ := vol_box hx4
      have hy4 := (hx2.trans hx3).trans hx4
      have C4 := Lib.hid (placed_same (errOf k) k (-1) w4 (hg.ext hy4) (.inl ⟨rfl, rfl⟩))
      have C5 := Lib.hid (fun w5 (hE : Ext w4 w5) => sameTexts_any w5 u v L (hU.ext hE) ((HS.out.ext (hx3.trans hx4)).ext hE))
      clear hU
      go_wp2_with fail
      refine C4.out.mono ?_; rintro e w5 ⟨rfl, hx5⟩
      go_wp2_with fail
      refine (C5.out _ hx5).mono ?_; rintro e w6 ⟨rfl, hx6⟩
      go_wp2_with fail
      go_ret
      exact ⟨rfl, (hy4.trans hx5).trans hx6⟩

set_option maxRecDepth 100000 in
theorem walk : Frame.WalksP Rows.volumeSplitsRow.laid 3 Tryz.f3 := by
  intro H enc W base args ds p hL hSh hval hA hsz
  have hg := Frame.handle_of_laidB rfl hL
  have hm := HasMax.ofShaped hSh
  rw [Tryz.params3] at hA hval hsz
  obtain ⟨v0, v1, d0, d1, p0, p1, rfl, rfl, rfl, h0, h1⟩ := trodAll_two hA
  obtain ⟨s, rfl, rfl, rfl, hs⟩ := open_string Tryz.underlying9 (hval 0 9 v0 rfl rfl) h0
  obtain ⟨b, rfl, rfl, rfl, wb⟩ := open_int Tryz.underlying3 (hval 1 3 v1 rfl rfl) h1
  exact law s b (bounds_i64 wb).1 (bounds_i64 wb).2 W hg hm

/-! ### The row and the card -/
theorem plain : Frame.Plain Rows.volumeSplitsSpec Tryz.f3 := by
  refine ⟨rfl, fun H ds h => ?_⟩
  rw [Tryz.params3] at h
  match ds, h with
  | [_, _], _ => rfl
theorem read : ∀ t ∈ Tryz.f3.params.toList, Tryz.prog.readableRec t = true ∧ t < Tryz.prog.types.size := by
  rw [Tryz.params3]
  intro t ht
  simp at ht
  rcases ht with rfl | rfl
  all_goals exact ⟨by kernel_rfl, of_decide_eq_true (by kernel_rfl)⟩
theorem reads (os : Os) {H : Type} (enc : TypeId × Value → H) : ∃ places, DataW.whole enc Tryz.prog ((Frame.bothWorld os Rows.volumeSplitsRow.laid).forCall (fun _ _ => 0) ⟨#[], #[.string ⟨#[]⟩, .int .i64 0], []⟩).memory Tryz.f3.params.toList Rows.volumeSplitsSpec.vars false (#[.string ⟨#[]⟩, .int .i64 0] : Array Value).toList 8 = some ([.lit (.string []), .lit (.int .i64 0)], [], places) :=
  ⟨[], by kernel_rfl⟩
set_option maxRecDepth 100000 in
theorem lifted (os : Os) (started : os.Started) (H : Type) (enc : TypeId × Value → H) (Fi : Stop.Interp) :
    ReturnsInHanded {} Tryz.checked os 3 .any ((OpenSpec.ofChange Rows.volumeSplitsSpec).preRow enc Tryz.prog Tryz.f3 Rows.volumeSplitsRow.domain false Rows.volumeSplitsRow.laid) (((OpenSpec.ofChange Rows.volumeSplitsSpec).at Fi).post enc Tryz.prog Tryz.f3 false true false false) := by
  obtain ⟨places, hx⟩ := reads os enc
  exact Frame.liftedP Tryz.func3 (by kernel_rfl) plain (by kernel_rfl) read walk os started H enc Fi
    (Frame.witness_zip (enc := enc) (C := Tryz.checked) false (Frame.bothWorld os Rows.volumeSplitsRow.laid) #[.string ⟨#[]⟩, .int .i64 0] rfl (by kernel_rfl) (by kernel_rfl) (by kernel_rfl)
      (OpenSpec.preRow_of_cond 8 hx (by kernel_rfl) (fun k hk => by cases hk) (by kernel_rfl) (Frame.bothWorld_met _ (by kernel_rfl) (by kernel_rfl) (by kernel_rfl))))
set_option maxRecDepth 100000 in
theorem said : Rows.VolumeSplitsSaid :=
  OpenClaim.holds_of_cond 3 Tryz.f3 rfl rfl rfl rfl rfl rfl rfl ⟨rfl, rfl, rfl, rfl, rfl⟩ rfl rfl rfl rfl rfl (by kernel_rfl) Tryz.func3 (by kernel_rfl)
    (of_decide_eq_true (by kernel_rfl)) (by unfold Func.isWrapper; first | (rw [if_pos (by decide +kernel)]; kernel_rfl) | (rw [if_neg (by decide +kernel)]; exact ⟨rfl, rfl⟩))
    (fun os started H enc _ F => by rw [OpenClaim.pre_eq_preRow]; exact lifted os started H enc F)
theorem looks (f : FuncId) (fn : Func) (hf : Tryz.pinned.checked.prog.funcNamed "revetment/revetmentlaw.VolumeSplits" = some f) (hfn : Tryz.pinned.checked.prog.funcs[f]? = some fn) :
    Rows.volumeSplitsCard.stood.looks = Tryz.pinned.checked.prog.looks [] ∧ ∀ (j : Nat) t, fn.params[j]? = some t → Tryz.pinned.checked.prog.wantsStandIn t = false := by
  obtain rfl : f = 3 := Option.some.inj ((show Tryz.prog.funcNamed "revetment/revetmentlaw.VolumeSplits" = some 3 by kernel_rfl).symm.trans hf) |>.symm
  obtain rfl : fn = Tryz.f3 := (Option.some.inj (Tryz.func3.symm.trans hfn)).symm
  refine ⟨by kernel_rfl, fun j t ht => ?_⟩
  rw [Tryz.params3] at ht
  have ht' := Array.mem_of_getElem? ht
  simp at ht'
  rcases ht' with rfl | rfl
  · exact (show Tryz.prog.wantsStandIn 9 = false by kernel_rfl)
  · exact (show Tryz.prog.wantsStandIn 3 = false by kernel_rfl)
theorem volumeSplits_holds : Rows.VolumeSplitsCardSaid :=
  Claim7.holds_tied_plain_at .later [] _ _ _ _ said (fun _ h => by cases h) (by kernel_rfl) (fun _ h => by cases h) volumeSplits_row_tie rfl ⟨rfl, rfl⟩ (by kernel_rfl) rfl looks (by kernel_rfl)
#print axioms volumeSplits_holds
end Go.Proofs.YtbofobakphlpbaaGreatDoor.volumeSplits
