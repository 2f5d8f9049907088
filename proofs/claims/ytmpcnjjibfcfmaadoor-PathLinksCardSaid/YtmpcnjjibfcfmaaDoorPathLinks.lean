/-
  The law PathLinks holds: path.Away returns what the reference returns for any valid names. No conditions.
-/
import Derived.Test.YtmpcnjjibfcfmaaDoorAwayRef
import Derived.Test.YtmpcnjjibfcfmaaDoorFrameP
namespace Go.Proofs.YtmpcnjjibfcfmaaDoor.pathLinks
open Go.ChangeShapes Go.WideShapes Go.ChangeAt Go.RowKit
open Go.ChangeMaps (open_string shut_string)

theorem right_parts {s : ByteArray} (h : rightV s = true) : 1 ≤ (partsB s).length := by
  unfold rightV at h
  simp only [Bool.and_eq_true] at h
  rw [good_parts h.1.1.1, pieces_len]
  omega

set_option maxRecDepth 100000 in
theorem law (s t : ByteArray) (w : World) (hm : HasMax w) (hs : s.size ≤ 140737488351232) (ht : t.size ≤ 140737488351232) : Calls Tryd.prog 11 #[.string s, .string t] w fun e w' => e = .returned (.bool true) ∧ Ext w w' := by
  by_cases h : 400 < (s.size : Int) + (t.size : Int)
  · go_enter Tryd.func11, Tryd.ntmps11
    go_wp2_with fail
    go_ret
    exact ⟨ret_bool (by simp), (by show Below _ _ _; repeat' (first | (with_reducible exact Below.refl _ _) | (with_reducible assumption) | (with_reducible refine belowDrewN ?_ _) | (with_reducible refine Below.alloc ?_ ?_ _) | (with_reducible refine Below.drew ?_) | (with_reducible refine Below.setCell ?_ ?_ _) | go_size))⟩
  · have c1 := fun w hm => nameRight_any s (by omega) w hm
    have c2 := fun w hm => nameRight_any t (by omega) w hm
    cases hr1 : rightV s with
    | false =>
      rw [hr1] at c1
      have C1 := Lib.hid c1
      clear c1 c2 hr1
      go_enter Tryd.func11, Tryd.ntmps11
      go_wp2_with fail
      refine (C1.out _ hm).mono ?_; rintro e w1 ⟨rfl, hx1⟩
      go_wp2_with fail
      go_ret
      exact ⟨ret_bool (by simp), hx1⟩
    | true =>
      cases hr2 : rightV t with
      | false =>
        rw [hr1] at c1
        rw [hr2] at c2
        have C1 := Lib.hid c1
        have C2 := Lib.hid c2
        clear c1 c2 hr1 hr2
        go_enter Tryd.func11, Tryd.ntmps11
        go_wp2_with fail
        refine (C1.out _ hm).mono ?_; rintro e w1 ⟨rfl, hx1⟩
        go_wp2_with fail
        refine (C2.out _ (hm.ext hx1)).mono ?_; rintro e w2 ⟨rfl, hx2⟩
        go_wp2_with fail
        go_ret
        exact ⟨ret_bool (by simp), hx1.trans hx2⟩
      | true =>
        have p1 := right_parts hr1
        have p2 := right_parts hr2
        have C3 := Lib.hid (fun w hm => pathAway_any s t (by omega) (by omega) p1 p2 w hm)
        have C4 := Lib.hid (fun w hm => refAway_any s t (by omega) (by omega) p1 p2 w hm)
        rw [hr1] at c1
        rw [hr2] at c2
        have C1 := Lib.hid c1
        have C2 := Lib.hid c2
        clear c1 c2 hr1 hr2 p1 p2
        generalize awayV (partsB s) (partsB t) = r at *
        go_enter Tryd.func11, Tryd.ntmps11
        go_wp2_with fail
        refine (C1.out _ hm).mono ?_; rintro e w1 ⟨rfl, hx1⟩
        go_wp2_with fail
        refine (C2.out _ (hm.ext hx1)).mono ?_; rintro e w2 ⟨rfl, hx2⟩
        go_wp2_with fail
        refine (C3.out _ (hm.ext (hx1.trans hx2))).mono ?_; rintro e w3 ⟨rfl, hx3⟩
        go_wp2_with fail
        refine (C4.out _ (hm.ext ((hx1.trans hx2).trans hx3))).mono ?_; rintro e w4 ⟨rfl, hx4⟩
        go_wp2_with fail
        go_ret
        exact ⟨ret_bool (by simp), ((hx1.trans hx2).trans hx3).trans hx4⟩

set_option maxRecDepth 100000 in
theorem walk : Frame.WalksP Rows.pathLinksRow.laid 11 Tryd.f11 := by
  intro H enc W base args ds p hL hSh hval hA hsz
  have hm := HasMax.ofShaped hSh
  rw [Tryd.params11] at hA hval hsz
  obtain ⟨v0, v1, d0, d1, p0, p1, rfl, rfl, rfl, h0, h1⟩ := trodAll_two hA
  obtain ⟨s, rfl, rfl, rfl, hs⟩ := open_string Tryd.underlying9 (hval 0 9 v0 rfl rfl) h0
  obtain ⟨t, rfl, rfl, rfl, ht⟩ := open_string Tryd.underlying9 (hval 1 9 v1 rfl rfl) h1
  have z0 := sized_string hsz (j := 0) (t := 9) rfl rfl
  have z1 := sized_string hsz (j := 1) (t := 9) rfl rfl
  exact law s t W hm (by simpa [reachBytes] using z0) (by simpa [reachBytes] using z1)

/-! ### The row and the card -/
theorem plain : Frame.Plain Rows.pathLinksSpec Tryd.f11 := by
  refine ⟨rfl, fun H ds h => ?_⟩
  rw [Tryd.params11] at h
  match ds, h with
  | [_, _], _ => rfl
theorem read : ∀ t ∈ Tryd.f11.params.toList, Tryd.prog.readableRec t = true ∧ t < Tryd.prog.types.size := by
  rw [Tryd.params11]
  intro t ht
  simp at ht
  subst ht
  all_goals exact ⟨by kernel_rfl, of_decide_eq_true (by kernel_rfl)⟩
theorem reads (os : Os) {H : Type} (enc : TypeId × Value → H) : ∃ places, DataW.whole enc Tryd.prog ((Frame.dataWorld os Rows.pathLinksRow.laid).forCall (fun _ _ => 0) ⟨#[], #[.string ⟨#[]⟩, .string ⟨#[]⟩], []⟩).memory Tryd.f11.params.toList Rows.pathLinksSpec.vars false (#[.string ⟨#[]⟩, .string ⟨#[]⟩] : Array Value).toList 8 = some ([.lit (.string []), .lit (.string [])], [], places) :=
  ⟨[], by kernel_rfl⟩
set_option maxRecDepth 100000 in
theorem lifted (os : Os) (started : os.Started) (H : Type) (enc : TypeId × Value → H) (Fi : Stop.Interp) :
    ReturnsInHanded {} Tryd.checked os 11 .any ((OpenSpec.ofChange Rows.pathLinksSpec).preRow enc Tryd.prog Tryd.f11 Rows.pathLinksRow.domain false Rows.pathLinksRow.laid) (((OpenSpec.ofChange Rows.pathLinksSpec).at Fi).post enc Tryd.prog Tryd.f11 false true false false) := by
  obtain ⟨places, hx⟩ := reads os enc
  exact Frame.liftedP Tryd.func11 (by kernel_rfl) plain (by kernel_rfl) read walk os started H enc Fi
    (witness_row_at (enc := enc) (C := Tryd.checked) false (Frame.dataWorld os Rows.pathLinksRow.laid) #[.string ⟨#[]⟩, .string ⟨#[]⟩] rfl (by kernel_rfl) (by kernel_rfl) (by kernel_rfl)
      (OpenSpec.preRow_of_cond 8 hx (by kernel_rfl) (fun k hk => by cases hk) (by kernel_rfl) (Frame.dataWorld_met (by kernel_rfl) _ (by kernel_rfl) (by kernel_rfl))))
set_option maxRecDepth 100000 in
theorem said : Rows.PathLinksSaid :=
  OpenClaim.holds_of_cond 11 Tryd.f11 rfl rfl rfl rfl rfl rfl rfl ⟨rfl, rfl, rfl, rfl, rfl⟩ rfl rfl rfl rfl rfl (by kernel_rfl) Tryd.func11 (by kernel_rfl)
    (of_decide_eq_true (by kernel_rfl)) (by unfold Func.isWrapper; first | (rw [if_pos (by decide +kernel)]; kernel_rfl) | (rw [if_neg (by decide +kernel)]; exact ⟨rfl, rfl⟩))
    (fun os started H enc _ F => by rw [OpenClaim.pre_eq_preRow]; exact lifted os started H enc F)
theorem looks (f : FuncId) (fn : Func) (hf : Tryd.pinned.checked.prog.funcNamed "revetment/revetmentlaw.PathLinks" = some f) (hfn : Tryd.pinned.checked.prog.funcs[f]? = some fn) :
    Rows.pathLinksCard.stood.looks = Tryd.pinned.checked.prog.looks [] ∧ ∀ (j : Nat) t, fn.params[j]? = some t → Tryd.pinned.checked.prog.wantsStandIn t = false := by
  obtain rfl : f = 11 := Option.some.inj ((show Tryd.prog.funcNamed "revetment/revetmentlaw.PathLinks" = some 11 by kernel_rfl).symm.trans hf) |>.symm
  obtain rfl : fn = Tryd.f11 := (Option.some.inj (Tryd.func11.symm.trans hfn)).symm
  refine ⟨by kernel_rfl, fun j t ht => ?_⟩
  rw [Tryd.params11] at ht
  have ht' := Array.mem_of_getElem? ht
  simp at ht'
  subst ht'
  · exact (show Tryd.prog.wantsStandIn 9 = false by kernel_rfl)
theorem pathLinks_holds : Rows.PathLinksCardSaid :=
  Claim7.holds_tied_plain_at .later [] _ _ _ _ said (fun _ h => by cases h) (by kernel_rfl) (fun _ h => by cases h) pathLinks_row_tie rfl ⟨rfl, rfl⟩ (by kernel_rfl) rfl looks (by kernel_rfl)
#print axioms pathLinks_holds
end Go.Proofs.YtmpcnjjibfcfmaaDoor.pathLinks
