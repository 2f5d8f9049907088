/-
  The law HoleFinds holds: hole.Find returns what the reference returns for any text and block size. No conditions.
-/
import Derived.Test.YtedcibjnnihhfaaDoorFindSame
import Derived.Test.YtedcibjnnihhfaaDoorFrameB
import Derived.Test.YtedcibjnnihhfaaDoorWit
namespace Go.Proofs.YtedcibjnnihhfaaDoor.holeFinds
open Go.ChangeShapes Go.WideShapes Go.ChangeAt Go.RowKit
open Go.ChangeMaps (open_string shut_string)

theorem both (s : ByteArray) (blk : Int) (hs : s.size ≤ 600) (h2 : blk ≤ 9223372036854775807) :
    ∃ (L : List (Int × Int)) (k : Int), L.length ≤ 600 ∧ (∀ w, Calls Tryd.prog 20 #[.string s, .int .i64 blk] w (GivesMapN L k w)) ∧ ∀ w, Calls Tryd.prog 21 #[.string s, .int .i64 blk] w (GivesMap L k w) := by
  by_cases h1 : blk < 1
  · exact ⟨[], 1, by simp, fun w => (mapFind_small s blk h1 w).mono fun e w' h => ⟨_, h.1, .inl ⟨⟨_, _, rfl⟩, rfl⟩, h.2⟩,
      fun w => (find_small s blk h1 w).mono fun e w' h => ⟨_, h.1, .inl ⟨⟨_, _, rfl⟩, rfl⟩, h.2⟩⟩
  · obtain ⟨b, hb⟩ : ∃ b : Nat, (b : Int) = min blk (max s.size 1) := ⟨(min blk (max s.size 1)).toNat, by omega⟩
    refine ⟨_, _, ?_, fun w => mapFind_any s blk hs (by omega) h2 b hb w, fun w => find_any s blk hs (by omega) h2 b hb w⟩
    have := findL_len (datAt s b) s.size
    unfold mapR
    split
    · simp
    · omega

set_option maxRecDepth 100000 in
theorem law (s : ByteArray) (blk : Int) (w : World) (h2 : blk ≤ 9223372036854775807) (hg : HasHandle w) : Calls Tryd.prog 5 #[.string s, .int .i64 blk] w fun e w' => e = .returned (.bool true) ∧ Ext w w' := by
  by_cases h : 600 < (s.size : Int)
  · go_enter Tryd.func5, Tryd.ntmps5
    go_wp2_with fail
    go_ret
    exact ⟨ret_bool (by simp), (by show Below _ _ _; repeat' (first | (with_reducible exact Below.refl _ _) | (with_reducible assumption) | (with_reducible refine belowDrewN ?_ _) | (with_reducible refine Below.alloc ?_ ?_ _) | (with_reducible refine Below.drew ?_) | (with_reducible refine Below.setCell ?_ ?_ _) | go_size))⟩
  · obtain ⟨L, k, hl, D1, D2⟩ := both s blk (by omega) h2
    have C1 := Lib.hid D1
    have C2 := Lib.hid D2
    clear D1 D2
    go_enter Tryd.func5, Tryd.ntmps5
    go_wp2_with fail
    refine (C1.out _).mono ?_; rintro e w1 ⟨v1, rfl, hI1, hx1⟩
    go_wp2_with fail
    refine (C2.out _).mono ?_; rintro e w2 ⟨v2, rfl, hI2, hx2⟩
    have hy2 := hx1.trans hx2
    go_wp2_with fail
    refine (bare_any _ _ _ (hg.ext hy2)).mono ?_; rintro e w3 ⟨rfl, hx3⟩
    have C3 := Lib.hid (same_any w3 v2 v1 L hl (hI2.ext hx3) ((hI1.ext hx2).ext hx3))
    clear hI1 hI2
    go_wp2_with fail
    refine C3.out.mono ?_; rintro e w4 ⟨rfl, hx4⟩
    go_wp2_with fail
    go_ret
    exact ⟨ret_bool (by simp), (hy2.trans hx3).trans hx4⟩

set_option maxRecDepth 100000 in
theorem walk : Frame.WalksP Rows.holeFindsRow.laid 5 Tryd.f5 := by
  intro H enc W base args ds p hL hSh hval hA hsz
  have hg := Frame.handle_of_laidB rfl hL
  rw [Tryd.params5] at hA hval hsz
  obtain ⟨v0, v1, d0, d1, p0, p1, rfl, rfl, rfl, h0, h1⟩ := trodAll_two hA
  obtain ⟨s, rfl, rfl, rfl, hs⟩ := open_string Tryd.underlying9 (hval 0 9 v0 rfl rfl) h0
  obtain ⟨m, rfl, rfl, rfl, wm⟩ := open_int Tryd.underlying3 (hval 1 3 v1 rfl rfl) h1
  exact law s m W (bounds_i64 wm).2 hg

/-! ### The row and the card -/
theorem plain : Frame.Plain Rows.holeFindsSpec Tryd.f5 := by
  refine ⟨rfl, fun H ds h => ?_⟩
  rw [Tryd.params5] at h
  match ds, h with
  | [_, _], _ => rfl
theorem read : ∀ t ∈ Tryd.f5.params.toList, Tryd.prog.readableRec t = true ∧ t < Tryd.prog.types.size := by
  rw [Tryd.params5]
  intro t ht
  simp at ht
  rcases ht with rfl | rfl
  all_goals exact ⟨by kernel_rfl, of_decide_eq_true (by kernel_rfl)⟩
theorem reads (os : Os) {H : Type} (enc : TypeId × Value → H) : ∃ places, DataW.whole enc Tryd.prog ((Frame.bothWorld os Rows.holeFindsRow.laid).forCall (fun _ _ => 0) ⟨#[], #[.string ⟨#[]⟩, .int .i64 0], []⟩).memory Tryd.f5.params.toList Rows.holeFindsSpec.vars false (#[.string ⟨#[]⟩, .int .i64 0] : Array Value).toList 8 = some ([.lit (.string []), .lit (.int .i64 0)], [], places) :=
  ⟨[], by kernel_rfl⟩
set_option maxRecDepth 100000 in
theorem lifted (os : Os) (started : os.Started) (H : Type) (enc : TypeId × Value → H) (Fi : Stop.Interp) :
    ReturnsInHanded {} Tryd.checked os 5 .any ((OpenSpec.ofChange Rows.holeFindsSpec).preRow enc Tryd.prog Tryd.f5 Rows.holeFindsRow.domain false Rows.holeFindsRow.laid) (((OpenSpec.ofChange Rows.holeFindsSpec).at Fi).post enc Tryd.prog Tryd.f5 false true false false) := by
  obtain ⟨places, hx⟩ := reads os enc
  exact Frame.liftedP Tryd.func5 (by kernel_rfl) plain (by kernel_rfl) read walk os started H enc Fi
    (Frame.witness_zip (enc := enc) (C := Tryd.checked) false (Frame.bothWorld os Rows.holeFindsRow.laid) #[.string ⟨#[]⟩, .int .i64 0] rfl (by kernel_rfl) (by kernel_rfl) (by kernel_rfl)
      (OpenSpec.preRow_of_cond 8 hx (by kernel_rfl) (fun k hk => by cases hk) (by kernel_rfl) (Frame.bothWorld_met _ (by kernel_rfl) (by kernel_rfl) (by kernel_rfl))))
set_option maxRecDepth 100000 in
theorem said : Rows.HoleFindsSaid :=
  OpenClaim.holds_of_cond 5 Tryd.f5 rfl rfl rfl rfl rfl rfl rfl ⟨rfl, rfl, rfl, rfl, rfl⟩ rfl rfl rfl rfl rfl (by kernel_rfl) Tryd.func5 (by kernel_rfl)
    (of_decide_eq_true (by kernel_rfl)) (by unfold Func.isWrapper; first | (rw [if_pos (by decide +kernel)]; kernel_rfl) | (rw [if_neg (by decide +kernel)]; exact ⟨rfl, rfl⟩))
    (fun os started H enc _ F => by rw [OpenClaim.pre_eq_preRow]; exact lifted os started H enc F)
theorem looks (f : FuncId) (fn : Func) (hf : Tryd.pinned.checked.prog.funcNamed "revetment/revetmentlaw.HoleFinds" = some f) (hfn : Tryd.pinned.checked.prog.funcs[f]? = some fn) :
    Rows.holeFindsCard.stood.looks = Tryd.pinned.checked.prog.looks [] ∧ ∀ (j : Nat) t, fn.params[j]? = some t → Tryd.pinned.checked.prog.wantsStandIn t = false := by
  obtain rfl : f = 5 := Option.some.inj ((show Tryd.prog.funcNamed "revetment/revetmentlaw.HoleFinds" = some 5 by kernel_rfl).symm.trans hf) |>.symm
  obtain rfl : fn = Tryd.f5 := (Option.some.inj (Tryd.func5.symm.trans hfn)).symm
  refine ⟨by kernel_rfl, fun j t ht => ?_⟩
  rw [Tryd.params5] at ht
  have ht' := Array.mem_of_getElem? ht
  simp at ht'
  rcases ht' with rfl | rfl
  · exact (show Tryd.prog.wantsStandIn 9 = false by kernel_rfl)
  · exact (show Tryd.prog.wantsStandIn 3 = false by kernel_rfl)
theorem holeFinds_holds : Rows.HoleFindsCardSaid :=
  Claim7.holds_tied_plain_at .later [] _ _ _ _ said (fun _ h => by cases h) (by kernel_rfl) (fun _ h => by cases h) holeFinds_row_tie rfl ⟨rfl, rfl⟩ (by kernel_rfl) rfl looks (by kernel_rfl)
#print axioms holeFinds_holds
end Go.Proofs.YtedcibjnnihhfaaDoor.holeFinds
