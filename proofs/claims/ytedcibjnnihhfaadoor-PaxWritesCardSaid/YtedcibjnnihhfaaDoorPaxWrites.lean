/-
  The law PaxWrites holds: Write returns what the reference returns for any pairs. No conditions.
-/
import Derived.Test.YtedcibjnnihhfaaDoorWrsRef
import Derived.Test.YtedcibjnnihhfaaDoorPowL
namespace Go.Proofs.YtedcibjnnihhfaaDoor.paxWrites
open Go.ChangeShapes Go.WideShapes Go.ChangeAt Go.RowKit Go.Joins

set_option maxHeartbeats 1600000 in
set_option maxRecDepth 100000 in
theorem law (v : Value) (n : Nat) (K X : Nat → ByteArray) (w : World) (h : IsPairs w v n K X) (hg : HasHandle w) (ht : HasPow w) :
    Calls Tryd.prog 11 #[v] w fun e w' => e = .returned (.bool true) ∧ Ext w w' := by
  have C1 := Lib.hid (heavy_any w v n K X h)
  have hl : ∃ a cap, v = .slice a n cap := by
    rcases h with ⟨⟨a0, c0, rfl⟩, rfl⟩ | ⟨b, off, cap, rfl, hn, _⟩
    · exact ⟨_, _, rfl⟩
    · exact ⟨_, _, rfl⟩
  cases hH : heavyB n K X with
  | true =>
    rw [hH] at C1
    obtain ⟨a, cap, rfl⟩ := hl
    clear h hH
    go_enter Tryd.func11, Tryd.ntmps11
    go_wp2_with fail
    refine C1.out.mono ?_; rintro e w1 ⟨rfl, hx1⟩
    go_wp2_with fail
    go_ret
    exact ⟨rfl, hx1⟩
  | false =>
    obtain ⟨_, hs⟩ := heavy_short hH
    have C2 := Lib.hid (fun w1 (hE : Ext w w1) => refRecords_any w1 v n K X (h.ext hE) hs (ht.ext hE))
    have C3 := Lib.hid (fun w1 (hE : Ext w w1) => paxWrite_any w1 v n K X (h.ext hE) hs (ht.ext hE))
    rw [hH] at C1
    obtain ⟨a, cap, rfl⟩ := hl
    clear h hH hs
    generalize wrV n K X = s at *
    generalize wrE n K X = k at *
    generalize wrP n K X = pl at *
    go_enter Tryd.func11, Tryd.ntmps11
    go_wp2_with fail
    refine C1.out.mono ?_; rintro e w1 ⟨rfl, hx1⟩
    go_wp2_with fail
    refine (C2.out _ hx1).mono ?_; rintro e w2 ⟨rfl, hx2⟩
    have hy2 := hx1.trans hx2
    go_wp2_with fail
    have hx3 : Ext w2 (w2.alloc (.cells #[.int .i64 k, .int .i64 pl] 66)) := (Ext.refl _).alloc _
    refine (C3.out _ (hy2.trans hx3)).mono ?_; rintro e w4 ⟨ev, rfl, hI, hx4⟩
    obtain ⟨r1, r2, _, _, r5⟩ := res_box hx4
    have hy4 := (hy2.trans hx3).trans hx4
    have C4 := Lib.hid (placed_same ev k pl w4 (hg.ext hy4) hI)
    clear hI
    go_wp2_with fail
    refine C4.out.mono ?_; rintro e w5 ⟨rfl, hx5⟩
    go_wp2_with fail
    go_ret
    exact ⟨ret_bool (by simp), hy4.trans hx5⟩

set_option maxRecDepth 100000 in
theorem walk : Frame.WalksP Rows.paxWritesRow.laid 11 Tryd.f11 := by
  intro H enc W base args ds p hL hSh hval hA hsz
  have hg := Frame.handle_of_laidB rfl hL
  have ht := pow_of_laidB (Frame.data_of_laidB rfl hL)
  rw [Tryd.params11] at hA hval hsz
  obtain ⟨v0, d0, rfl, rfl, h0⟩ := trodAll_one hA
  obtain ⟨n, K, X, hp⟩ := arg_pairs (hval 0 63 v0 rfl rfl) h0 hsz (j := 0) rfl rfl
  exact law v0 n K X W hp hg ht

/-! ### The row and the card -/
theorem plain : Frame.Plain Rows.paxWritesSpec Tryd.f11 := by
  refine ⟨rfl, fun H ds h => ?_⟩
  rw [Tryd.params11] at h
  match ds, h with
  | [_], _ => rfl
theorem read : ∀ t ∈ Tryd.f11.params.toList, Tryd.prog.readableRec t = true ∧ t < Tryd.prog.types.size := by
  rw [Tryd.params11]
  intro t ht
  simp at ht
  subst ht
  all_goals exact ⟨by kernel_rfl, of_decide_eq_true (by kernel_rfl)⟩
theorem reads (os : Os) {H : Type} (enc : TypeId × Value → H) : ∃ places, DataW.whole enc Tryd.prog ((Frame.bothWorld os Rows.paxWritesRow.laid).forCall (fun _ _ => 0) ⟨#[], #[.slice none 0 0], []⟩).memory Tryd.f11.params.toList Rows.paxWritesSpec.vars false (#[.slice none 0 0] : Array Value).toList 8 = some ([.nil], [], places) :=
  ⟨[], by kernel_rfl⟩
set_option maxRecDepth 100000 in
theorem lifted (os : Os) (started : os.Started) (H : Type) (enc : TypeId × Value → H) (Fi : Stop.Interp) :
    ReturnsInHanded {} Tryd.checked os 11 .any ((OpenSpec.ofChange Rows.paxWritesSpec).preRow enc Tryd.prog Tryd.f11 Rows.paxWritesRow.domain false Rows.paxWritesRow.laid) (((OpenSpec.ofChange Rows.paxWritesSpec).at Fi).post enc Tryd.prog Tryd.f11 false true false false) := by
  obtain ⟨places, hx⟩ := reads os enc
  exact Frame.liftedP Tryd.func11 (by kernel_rfl) plain (by kernel_rfl) read walk os started H enc Fi
    (Frame.witness_zip (enc := enc) (C := Tryd.checked) false (Frame.bothWorld os Rows.paxWritesRow.laid) #[.slice none 0 0] rfl (by kernel_rfl) (by kernel_rfl) (by kernel_rfl)
      (OpenSpec.preRow_of_cond 8 hx (by kernel_rfl) (fun k hk => by cases hk) (by kernel_rfl) (Frame.bothWorld_met _ (by kernel_rfl) (by kernel_rfl) (by kernel_rfl))))
set_option maxRecDepth 100000 in
theorem said : Rows.PaxWritesSaid :=
  OpenClaim.holds_of_cond 11 Tryd.f11 rfl rfl rfl rfl rfl rfl rfl ⟨rfl, rfl, rfl, rfl, rfl⟩ rfl rfl rfl rfl rfl (by kernel_rfl) Tryd.func11 (by kernel_rfl)
    (of_decide_eq_true (by kernel_rfl)) (by unfold Func.isWrapper; first | (rw [if_pos (by decide +kernel)]; kernel_rfl) | (rw [if_neg (by decide +kernel)]; exact ⟨rfl, rfl⟩))
    (fun os started H enc _ F => by rw [OpenClaim.pre_eq_preRow]; exact lifted os started H enc F)
theorem looks (f : FuncId) (fn : Func) (hf : Tryd.pinned.checked.prog.funcNamed "revetment/revetmentlaw.PaxWrites" = some f) (hfn : Tryd.pinned.checked.prog.funcs[f]? = some fn) :
    Rows.paxWritesCard.stood.looks = Tryd.pinned.checked.prog.looks [] ∧ ∀ (j : Nat) t, fn.params[j]? = some t → Tryd.pinned.checked.prog.wantsStandIn t = false := by
  obtain rfl : f = 11 := Option.some.inj ((show Tryd.prog.funcNamed "revetment/revetmentlaw.PaxWrites" = some 11 by kernel_rfl).symm.trans hf) |>.symm
  obtain rfl : fn = Tryd.f11 := (Option.some.inj (Tryd.func11.symm.trans hfn)).symm
  refine ⟨by kernel_rfl, fun j t ht => ?_⟩
  rw [Tryd.params11] at ht
  have ht' := Array.mem_of_getElem? ht
  simp at ht'
  subst ht'
  · exact (show Tryd.prog.wantsStandIn 63 = false by kernel_rfl)
theorem paxWrites_holds : Rows.PaxWritesCardSaid :=
  Claim7.holds_tied_plain_at .later [] _ _ _ _ said (fun _ h => by cases h) (by kernel_rfl) (fun _ h => by cases h) paxWrites_row_tie rfl ⟨rfl, rfl⟩ (by kernel_rfl) rfl looks (by kernel_rfl)
#print axioms paxWrites_holds
end Go.Proofs.YtedcibjnnihhfaaDoor.paxWrites
