/-
  The law GlobMatches holds: glob.Match returns what the reference returns for any pattern and name. No conditions.
-/
import Derived.Test.YtnnoeckmkjhdbaaDoorGlG
import Derived.Test.YtnnoeckmkjhdbaaDoorFrameD
namespace Go.Proofs.YtnnoeckmkjhdbaaDoor.globMatches
open Go.ChangeShapes Go.WideShapes Go.ChangeAt Go.RowKit
open Go.ChangeMaps (open_string shut_string)

set_option maxHeartbeats 1600000 in
set_option maxRecDepth 100000 in
theorem law (s n : ByteArray) (w : World) (hg : HasHandle w) : Calls Tryd.prog 3 #[.string s, .string n] w fun e w' => e = .returned (.bool true) ∧ Ext w w' := by
  by_cases h1 : 130 < s.size
  · have q1 : decide ((130 : Int) < (s.size : Int)) = true := decide_eq_true (by omega)
    clear h1
    go_enter Tryd.func3, Tryd.ntmps3
    go_wp2_with fail
    go_ret
    exact ⟨ret_bool (by simp), (by show Below _ _ _; repeat' (first | (with_reducible exact Below.refl _ _) | (with_reducible assumption) | (with_reducible refine belowDrewN ?_ _) | (with_reducible refine Below.alloc ?_ ?_ _) | (with_reducible refine Below.drew ?_) | (with_reducible refine Below.setCell ?_ ?_ _) | go_size))⟩
  · have q1 : decide ((130 : Int) < (s.size : Int)) = false := decide_eq_false (by omega)
    by_cases h2 : 130 < n.size
    · have q2 : decide ((130 : Int) < (n.size : Int)) = true := decide_eq_true (by omega)
      clear h1 h2
      go_enter Tryd.func3, Tryd.ntmps3
      go_wp2_with fail
      go_ret
      exact ⟨ret_bool (by simp), (by show Below _ _ _; repeat' (first | (with_reducible exact Below.refl _ _) | (with_reducible assumption) | (with_reducible refine belowDrewN ?_ _) | (with_reducible refine Below.alloc ?_ ?_ _) | (with_reducible refine Below.drew ?_) | (with_reducible refine Below.setCell ?_ ?_ _) | go_size))⟩
    · have q2 : decide ((130 : Int) < (n.size : Int)) = false := decide_eq_false (by omega)
      have C1 := Lib.hid (fun w => refGlob_any s n (by omega) (by omega) w)
      have C2 := Lib.hid (fun w => globMatch_any s n (by omega) (by omega) w)
      generalize gmV s n = a at *
      generalize gmE s n = b at *
      clear h1 h2
      go_enter Tryd.func3, Tryd.ntmps3
      go_wp2_with fail
      refine (C1.out _).mono ?_; rintro e w1 ⟨rfl, hx1⟩
      go_wp2_with fail
      refine (C2.out _).mono ?_; rintro e w2 ⟨rfl, hx2⟩
      go_wp2_with fail
      refine (bare_any _ _ _ (hg.ext (Ext.trans hx1 hx2))).mono ?_; rintro e w3 ⟨rfl, hx3⟩
      go_wp2_with fail
      go_ret
      exact ⟨ret_bool (by simp), (hx1.trans hx2).trans hx3⟩

set_option maxRecDepth 100000 in
theorem walk : Frame.WalksD [("errors.errorType", Rows.laid_errors_errorType)] 3 Tryd.f3 := by
  intro H enc W base args ds p hL hval hA hsz
  have hg := Frame.handle_of_laid hL
  rw [Tryd.params3] at hA hval hsz
  obtain ⟨v0, v1, d0, d1, p0, p1, rfl, rfl, rfl, h0, h1⟩ := trodAll_two hA
  obtain ⟨s, rfl, rfl, rfl, hs⟩ := open_string Tryd.underlying9 (hval 0 9 v0 rfl rfl) h0
  obtain ⟨n, rfl, rfl, rfl, hn⟩ := open_string Tryd.underlying9 (hval 1 9 v1 rfl rfl) h1
  exact law s n W hg

/-! ### The row and the card -/
theorem plain : Frame.Plain Rows.globMatchesSpec Tryd.f3 := by
  refine ⟨rfl, fun H ds h => ?_⟩
  rw [Tryd.params3] at h
  match ds, h with
  | [_, _], _ => rfl
theorem read : ∀ t ∈ Tryd.f3.params.toList, Tryd.prog.readableRec t = true ∧ t < Tryd.prog.types.size := by
  rw [Tryd.params3]
  intro t ht
  simp at ht
  subst ht
  all_goals exact ⟨by kernel_rfl, of_decide_eq_true (by kernel_rfl)⟩
theorem reads (os : Os) {H : Type} (enc : TypeId × Value → H) : ∃ places, DataW.whole enc Tryd.prog ((Frame.laidWorld os).forCall (fun _ _ => 0) ⟨#[], #[.string ⟨#[]⟩, .string ⟨#[]⟩], []⟩).memory Tryd.f3.params.toList Rows.globMatchesSpec.vars false (#[.string ⟨#[]⟩, .string ⟨#[]⟩] : Array Value).toList 8 = some ([.lit (.string []), .lit (.string [])], [], places) :=
  ⟨[], by kernel_rfl⟩
set_option maxRecDepth 100000 in
theorem lifted (os : Os) (started : os.Started) (H : Type) (enc : TypeId × Value → H) (Fi : Stop.Interp) :
    ReturnsInHanded {} Tryd.checked os 3 .any ((OpenSpec.ofChange Rows.globMatchesSpec).preRow enc Tryd.prog Tryd.f3 Rows.globMatchesRow.domain false Rows.globMatchesRow.laid) (((OpenSpec.ofChange Rows.globMatchesSpec).at Fi).post enc Tryd.prog Tryd.f3 false true false false) := by
  obtain ⟨places, hx⟩ := reads os enc
  exact Frame.liftedD Tryd.func3 (by kernel_rfl) plain (by kernel_rfl) read walk os started H enc Fi
    (witness_row_at (enc := enc) (C := Tryd.checked) false (Frame.laidWorld os) #[.string ⟨#[]⟩, .string ⟨#[]⟩] rfl (by kernel_rfl) (by kernel_rfl) (by kernel_rfl)
      (OpenSpec.preRow_of_cond 8 hx (by kernel_rfl) (fun k hk => by cases hk) (by kernel_rfl) (Frame.laidWorld_met os _)))
set_option maxRecDepth 100000 in
theorem said : Rows.GlobMatchesSaid :=
  OpenClaim.holds_of_cond 3 Tryd.f3 rfl rfl rfl rfl rfl rfl rfl ⟨rfl, rfl, rfl, rfl, rfl⟩ rfl rfl rfl rfl rfl (by kernel_rfl) Tryd.func3 (by kernel_rfl)
    (of_decide_eq_true (by kernel_rfl)) (by unfold Func.isWrapper; first | (rw [if_pos (by decide +kernel)]; kernel_rfl) | (rw [if_neg (by decide +kernel)]; exact ⟨rfl, rfl⟩))
    (fun os started H enc _ F => by rw [OpenClaim.pre_eq_preRow]; exact lifted os started H enc F)
theorem looks (f : FuncId) (fn : Func) (hf : Tryd.pinned.checked.prog.funcNamed "revetment/revetmentlaw.GlobMatches" = some f) (hfn : Tryd.pinned.checked.prog.funcs[f]? = some fn) :
    Rows.globMatchesCard.stood.looks = Tryd.pinned.checked.prog.looks [] ∧ ∀ (j : Nat) t, fn.params[j]? = some t → Tryd.pinned.checked.prog.wantsStandIn t = false := by
  obtain rfl : f = 3 := Option.some.inj ((show Tryd.prog.funcNamed "revetment/revetmentlaw.GlobMatches" = some 3 by kernel_rfl).symm.trans hf) |>.symm
  obtain rfl : fn = Tryd.f3 := (Option.some.inj (Tryd.func3.symm.trans hfn)).symm
  refine ⟨by kernel_rfl, fun j t ht => ?_⟩
  rw [Tryd.params3] at ht
  have ht' := Array.mem_of_getElem? ht
  simp at ht'
  subst ht'
  · exact (show Tryd.prog.wantsStandIn 9 = false by kernel_rfl)
theorem globMatches_holds : Rows.GlobMatchesCardSaid :=
  Claim7.holds_tied_plain_at .later [] _ _ _ _ said (fun _ h => by cases h) (by kernel_rfl) (fun _ h => by cases h) globMatches_row_tie rfl ⟨rfl, rfl⟩ (by kernel_rfl) rfl looks (by kernel_rfl)
#print axioms globMatches_holds
end Go.Proofs.YtnnoeckmkjhdbaaDoor.globMatches
