/-
  The law NumberWrites holds: number.Write returns what the reference returns for any arguments. No conditions.
-/
import Derived.Test.YtlinhilcjefgmaaDoorWrite
import Derived.Test.YtlinhilcjefgmaaDoorFrameB
namespace Go.Proofs.YtlinhilcjefgmaaDoor.numberWrites
open Go.ChangeShapes Go.WideShapes Go.ChangeAt Go.RowKit
open Go.ChangeMaps (open_string shut_string)

set_option maxRecDepth 100000 in
theorem law (n W : Int) (b : Bool) (hn1 : -9223372036854775808 ≤ n) (hn2 : n ≤ 9223372036854775807) (w : World) (hg : HasHandle w) : Calls Tryd.prog 13 #[.int .i64 n, .int .i64 W, .bool b] w fun e w' => e = .returned (.bool true) ∧ Ext w w' := by
  obtain ⟨s, k, hs, hk, c2, c1⟩ := write_ways n W b hn1 hn2
  have C1 := Lib.hid c1
  have C2 := Lib.hid c2
  clear c1 c2 hk
  go_enter Tryd.func13, Tryd.ntmps13
  go_wp2_with fail
  refine (C1.out _).mono ?_; rintro e w1 ⟨rfl, hx1⟩
  go_wp2_with fail
  refine (C2.out _).mono ?_; rintro e w2 ⟨rfl, hx2⟩
  go_wp2_with fail
  refine (bare_any _ _ _ (hg.ext (Ext.trans hx1 hx2))).mono ?_; rintro e w3 ⟨rfl, hx3⟩
  go_wp2_with fail
  go_ret
  exact ⟨ret_bool (by simp), (hx1.trans hx2).trans hx3⟩

set_option maxRecDepth 100000 in
theorem walk : Frame.WalksP Rows.numberWritesRow.laid 13 Tryd.f13 := by
  intro H enc W base args ds p hL hSh hval hA hsz
  have hg := Frame.handle_of_laidB rfl hL
  rw [Tryd.params13] at hA hval hsz
  obtain ⟨v0, v1, v2, d0, d1, d2, p0, p1, p2, rfl, rfl, rfl, h0, h1, h2⟩ := trodAll_three hA
  obtain ⟨n, rfl, rfl, rfl, wn⟩ := open_int Tryd.underlying3 (hval 0 3 v0 rfl rfl) h0
  obtain ⟨m, rfl, rfl, rfl, wm⟩ := open_int Tryd.underlying3 (hval 1 3 v1 rfl rfl) h1
  obtain ⟨b, rfl, rfl, rfl⟩ := open_bool Tryd.underlying4 (hval 2 4 v2 rfl rfl) h2
  exact law n m b (bounds_i64 wn).1 (bounds_i64 wn).2 W hg

/-! ### The row and the card -/
theorem plain : Frame.Plain Rows.numberWritesSpec Tryd.f13 := by
  refine ⟨rfl, fun H ds h => ?_⟩
  rw [Tryd.params13] at h
  match ds, h with
  | [_, _, _], _ => rfl
theorem read : ∀ t ∈ Tryd.f13.params.toList, Tryd.prog.readableRec t = true ∧ t < Tryd.prog.types.size := by
  rw [Tryd.params13]
  intro t ht
  simp at ht
  rcases ht with rfl | rfl
  all_goals exact ⟨by kernel_rfl, of_decide_eq_true (by kernel_rfl)⟩
theorem reads (os : Os) {H : Type} (enc : TypeId × Value → H) : ∃ places, DataW.whole enc Tryd.prog ((Frame.bothWorld os Rows.numberWritesRow.laid).forCall (fun _ _ => 0) ⟨#[], #[.int .i64 0, .int .i64 0, .bool false], []⟩).memory Tryd.f13.params.toList Rows.numberWritesSpec.vars false (#[.int .i64 0, .int .i64 0, .bool false] : Array Value).toList 8 = some ([.lit (.int .i64 0), .lit (.int .i64 0), .lit (.bool false)], [], places) :=
  ⟨[], by kernel_rfl⟩
set_option maxRecDepth 100000 in
theorem lifted (os : Os) (started : os.Started) (H : Type) (enc : TypeId × Value → H) (Fi : Stop.Interp) :
    ReturnsInHanded {} Tryd.checked os 13 .any ((OpenSpec.ofChange Rows.numberWritesSpec).preRow enc Tryd.prog Tryd.f13 Rows.numberWritesRow.domain false Rows.numberWritesRow.laid) (((OpenSpec.ofChange Rows.numberWritesSpec).at Fi).post enc Tryd.prog Tryd.f13 false true false false) := by
  obtain ⟨places, hx⟩ := reads os enc
  exact Frame.liftedP Tryd.func13 (by kernel_rfl) plain (by kernel_rfl) read walk os started H enc Fi
    (witness_row_at (enc := enc) (C := Tryd.checked) false (Frame.bothWorld os Rows.numberWritesRow.laid) #[.int .i64 0, .int .i64 0, .bool false] rfl (by kernel_rfl) (by kernel_rfl) (by kernel_rfl)
      (OpenSpec.preRow_of_cond 8 hx (by kernel_rfl) (fun k hk => by cases hk) (by kernel_rfl) (Frame.bothWorld_met _ (by kernel_rfl) (by kernel_rfl) (by kernel_rfl))))
set_option maxRecDepth 100000 in
theorem said : Rows.NumberWritesSaid :=
  OpenClaim.holds_of_cond 13 Tryd.f13 rfl rfl rfl rfl rfl rfl rfl ⟨rfl, rfl, rfl, rfl, rfl⟩ rfl rfl rfl rfl rfl (by kernel_rfl) Tryd.func13 (by kernel_rfl)
    (of_decide_eq_true (by kernel_rfl)) (by unfold Func.isWrapper; first | (rw [if_pos (by decide +kernel)]; kernel_rfl) | (rw [if_neg (by decide +kernel)]; exact ⟨rfl, rfl⟩))
    (fun os started H enc _ F => by rw [OpenClaim.pre_eq_preRow]; exact lifted os started H enc F)
theorem looks (f : FuncId) (fn : Func) (hf : Tryd.pinned.checked.prog.funcNamed "revetment/revetmentlaw.NumberWrites" = some f) (hfn : Tryd.pinned.checked.prog.funcs[f]? = some fn) :
    Rows.numberWritesCard.stood.looks = Tryd.pinned.checked.prog.looks [] ∧ ∀ (j : Nat) t, fn.params[j]? = some t → Tryd.pinned.checked.prog.wantsStandIn t = false := by
  obtain rfl : f = 13 := Option.some.inj ((show Tryd.prog.funcNamed "revetment/revetmentlaw.NumberWrites" = some 13 by kernel_rfl).symm.trans hf) |>.symm
  obtain rfl : fn = Tryd.f13 := (Option.some.inj (Tryd.func13.symm.trans hfn)).symm
  refine ⟨by kernel_rfl, fun j t ht => ?_⟩
  rw [Tryd.params13] at ht
  have ht' := Array.mem_of_getElem? ht
  simp at ht'
  rcases ht' with rfl | rfl
  · exact (show Tryd.prog.wantsStandIn 3 = false by kernel_rfl)
  · exact (show Tryd.prog.wantsStandIn 4 = false by kernel_rfl)
theorem numberWrites_holds : Rows.NumberWritesCardSaid :=
  Claim7.holds_tied_plain_at .later [] _ _ _ _ said (fun _ h => by cases h) (by kernel_rfl) (fun _ h => by cases h) numberWrites_row_tie rfl ⟨rfl, rfl⟩ (by kernel_rfl) rfl looks (by kernel_rfl)
#print axioms numberWrites_holds
end Go.Proofs.YtlinhilcjefgmaaDoor.numberWrites
