/-
  The law PathRights holds: path.Right returns what the reference returns for any name. No conditions.
-/
import Derived.Test.YtmpcnjjibfcfmaaDoorNameRight
import Derived.Test.YtmpcnjjibfcfmaaDoorFrameP
namespace Go.Proofs.YtmpcnjjibfcfmaaDoor.pathRights
open Go.ChangeShapes Go.WideShapes Go.ChangeAt Go.RowKit
open Go.ChangeMaps (open_string shut_string)

set_option maxRecDepth 100000 in
theorem law (s : ByteArray) (w : World) (hm : HasMax w) : Calls Tryd.prog 5 #[.string s] w fun e w' => e = .returned (.bool true) ∧ Ext w w' := by
  by_cases h : 200 < (s.size : Int)
  · go_enter Tryd.func5, Tryd.ntmps5
    go_wp2_with fail
    go_ret
    exact ⟨ret_bool (by simp), (by show Below _ _ _; repeat' (first | (with_reducible exact Below.refl _ _) | (with_reducible assumption) | (with_reducible refine belowDrewN ?_ _) | (with_reducible refine Below.alloc ?_ ?_ _) | (with_reducible refine Below.drew ?_) | (with_reducible refine Below.setCell ?_ ?_ _) | go_size))⟩
  · have hs : s.size ≤ 200 := by omega
    have C1 := Lib.hid (fun w hm => pathRight_any s (by omega) w hm)
    have C2 := Lib.hid (fun w hm => nameRight_any s (by omega) w hm)
    generalize rightV s = t at *
    go_enter Tryd.func5, Tryd.ntmps5
    go_wp2_with fail
    refine (C1.out _ hm).mono ?_; rintro e w1 ⟨rfl, hx1⟩
    go_wp2_with fail
    refine (C2.out _ (hm.ext hx1)).mono ?_; rintro e w2 ⟨rfl, hx2⟩
    go_wp2_with fail
    go_ret
    exact ⟨ret_bool (by simp), hx1.trans hx2⟩

set_option maxRecDepth 100000 in
theorem walk : Frame.WalksP Rows.pathRightsRow.laid 5 Tryd.f5 := by
  intro H enc W base args ds p hL hSh hval hA hsz
  have hm := HasMax.ofShaped hSh
  rw [Tryd.params5] at hA hval hsz
  obtain ⟨v0, d0, rfl, rfl, h0⟩ := trodAll_one hA
  obtain ⟨s, rfl, rfl, rfl, hs⟩ := open_string Tryd.underlying9 (hval 0 9 v0 rfl rfl) h0
  exact law s W hm

/-! ### The row and the card -/
theorem plain : Frame.Plain Rows.pathRightsSpec Tryd.f5 := by
  refine ⟨rfl, fun H ds h => ?_⟩
  rw [Tryd.params5] at h
  match ds, h with
  | [_], _ => rfl
theorem read : ∀ t ∈ Tryd.f5.params.toList, Tryd.prog.readableRec t = true ∧ t < Tryd.prog.types.size := by
  rw [Tryd.params5]
  intro t ht
  simp at ht
  subst ht
  all_goals exact ⟨by kernel_rfl, of_decide_eq_true (by kernel_rfl)⟩
theorem reads (os : Os) {H : Type} (enc : TypeId × Value → H) : ∃ places, DataW.whole enc Tryd.prog ((Frame.dataWorld os Rows.pathRightsRow.laid).forCall (fun _ _ => 0) ⟨#[], #[.string ⟨#[]⟩], []⟩).memory Tryd.f5.params.toList Rows.pathRightsSpec.vars false (#[.string ⟨#[]⟩] : Array Value).toList 8 = some ([.lit (.string [])], [], places) :=
  ⟨[], by kernel_rfl⟩
set_option maxRecDepth 100000 in
theorem lifted (os : Os) (started : os.Started) (H : Type) (enc : TypeId × Value → H) (Fi : Stop.Interp) :
    ReturnsInHanded {} Tryd.checked os 5 .any ((OpenSpec.ofChange Rows.pathRightsSpec).preRow enc Tryd.prog Tryd.f5 Rows.pathRightsRow.domain false Rows.pathRightsRow.laid) (((OpenSpec.ofChange Rows.pathRightsSpec).at Fi).post enc Tryd.prog Tryd.f5 false true false false) := by
  obtain ⟨places, hx⟩ := reads os enc
  exact Frame.liftedP Tryd.func5 (by kernel_rfl) plain (by kernel_rfl) read walk os started H enc Fi
    (witness_row_at (enc := enc) (C := Tryd.checked) false (Frame.dataWorld os Rows.pathRightsRow.laid) #[.string ⟨#[]⟩] rfl (by kernel_rfl) (by kernel_rfl) (by kernel_rfl)
      (OpenSpec.preRow_of_cond 8 hx (by kernel_rfl) (fun k hk => by cases hk) (by kernel_rfl) (Frame.dataWorld_met (by kernel_rfl) _ (by kernel_rfl) (by kernel_rfl))))
set_option maxRecDepth 100000 in
theorem said : Rows.PathRightsSaid :=
  OpenClaim.holds_of_cond 5 Tryd.f5 rfl rfl rfl rfl rfl rfl rfl ⟨rfl, rfl, rfl, rfl, rfl⟩ rfl rfl rfl rfl rfl (by kernel_rfl) Tryd.func5 (by kernel_rfl)
    (of_decide_eq_true (by kernel_rfl)) (by unfold Func.isWrapper; first | (rw [if_pos (by decide +kernel)]; kernel_rfl) | (rw [if_neg (by decide +kernel)]; exact ⟨rfl, rfl⟩))
    (fun os started H enc _ F => by rw [OpenClaim.pre_eq_preRow]; exact lifted os started H enc F)
theorem looks (f : FuncId) (fn : Func) (hf : Tryd.pinned.checked.prog.funcNamed "revetment/revetmentlaw.PathRights" = some f) (hfn : Tryd.pinned.checked.prog.funcs[f]? = some fn) :
    Rows.pathRightsCard.stood.looks = Tryd.pinned.checked.prog.looks [] ∧ ∀ (j : Nat) t, fn.params[j]? = some t → Tryd.pinned.checked.prog.wantsStandIn t = false := by
  obtain rfl : f = 5 := Option.some.inj ((show Tryd.prog.funcNamed "revetment/revetmentlaw.PathRights" = some 5 by kernel_rfl).symm.trans hf) |>.symm
  obtain rfl : fn = Tryd.f5 := (Option.some.inj (Tryd.func5.symm.trans hfn)).symm
  refine ⟨by kernel_rfl, fun j t ht => ?_⟩
  rw [Tryd.params5] at ht
  have ht' := Array.mem_of_getElem? ht
  simp at ht'
  subst ht'
  · exact (show Tryd.prog.wantsStandIn 9 = false by kernel_rfl)
theorem pathRights_holds : Rows.PathRightsCardSaid :=
  Claim7.holds_tied_plain_at .later [] _ _ _ _ said (fun _ h => by cases h) (by kernel_rfl) (fun _ h => by cases h) pathRights_row_tie rfl ⟨rfl, rfl⟩ (by kernel_rfl) rfl looks (by kernel_rfl)
#print axioms pathRights_holds
end Go.Proofs.YtmpcnjjibfcfmaaDoor.pathRights
