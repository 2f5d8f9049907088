/-
  The law HeadReads holds: head.Read returns what the reference returns for any block. No conditions.
-/
import Derived.Test.YtbofobakphlpbaaGreatDoorHrS
import Derived.Test.YtbofobakphlpbaaGreatDoorRawA
import Derived.Test.YtbofobakphlpbaaGreatDoorFrameB
import Derived.Test.YtbofobakphlpbaaGreatDoorWit
namespace Go.Proofs.YtbofobakphlpbaaGreatDoor.headReads
open Go.ChangeShapes Go.WideShapes Go.ChangeAt Go.RowKit
open Go.ChangeMaps (open_string shut_string)

set_option maxHeartbeats 4000000 in
set_option maxRecDepth 100000 in
theorem law (s : ByteArray) (w : World) (hg : HasHandle w) (hm : HasMax w) : Calls Tryz.prog 4 #[.string s] w fun e w' => e = .returned (.bool true) ∧ Ext w w' := by
  by_cases h : 600 < (s.size : Int)
  · go_enter Tryz.func4, Tryz.ntmps4
    go_wp2_with fail
    go_ret
    exact ⟨ret_bool (by simp), (by show Below _ _ _; repeat' (first | (with_reducible exact Below.refl _ _) | (with_reducible assumption) | (with_reducible refine belowDrewN ?_ _) | (with_reducible refine Below.alloc ?_ ?_ _) | (with_reducible refine Below.drew ?_) | (with_reducible refine Below.setCell ?_ ?_ _) | go_size))⟩
  · obtain ⟨X, kd, N, d, k, C1, C2⟩ := head_both s (by omega)
    simp only [rowRaw] at C1 C2
    generalize X 0 = x0 at *
    generalize X 1 = x1 at *
    generalize X 2 = x2 at *
    generalize X 3 = x3 at *
    generalize X 4 = x4 at *
    generalize N 0 = n0 at *
    generalize N 1 = n1 at *
    generalize N 2 = n2 at *
    generalize N 3 = n3 at *
    generalize N 4 = n4 at *
    generalize N 5 = n5 at *
    generalize N 6 = n6 at *
    replace C1 := Lib.hid C1
    replace C2 := Lib.hid C2
    have CB : Hid (∀ w, HasHandle w → Calls Tryz.prog 13 #[errOf k, .int .i64 k] w fun r w' => r = .returned (.bool true) ∧ Ext w w') := Lib.hid (fun w h => by
      have := bare_any k k w h
      rwa [beq_self_eq_true] at this)
    go_enter Tryz.func4, Tryz.ntmps4
    go_wp2_with fail
    refine (C2.out _ hm).mono ?_; rintro e w1 ⟨rfl, hy1⟩
    go_wp2_with fail
    refine (C1.out _ (hm.ext (hy1.trans ((Ext.refl _).alloc _)))).mono ?_; rintro e w2 ⟨rfl, hy2⟩
    have hcl2 : ∀ b o, b < _ → w2.cell? ⟨b, o, none⟩ = _ := fun b o hb => hy2.cells b o hb
    have hz2 : w1.heap.size < w2.heap.size := by have := hy2.size; simp only [World.size_alloc] at this; omega
    have hz2n : w1.heap.size ≠ w2.heap.size := by omega
    have hx : Ext w w2 := (hy1.trans ((Ext.refl _).alloc _)).trans hy2
    have hgx : HasHandle (w2.alloc (.cells #[.string x0, .string x1, .string x2, .string x3, .string x4, .int .u8 kd, .int .i64 n0, .int .i64 n1, .int .i64 n2, .int .i64 n3, .int .i64 n4, .int .i64 n5, .int .i64 n6] 39)) := hg.ext (hx.trans ((Ext.refl _).alloc _))
    go_wp2_with fail
    refine wp_region_det (Stood _) (by kernel_rfl) (by kernel_rfl) (Stood.start _) ?_
    repeat (first
      | (refine det_skip (by rfl) ?_; simp only [Act.put, List.setIfInBounds_toArray, List.set_cons_zero, List.set_cons_succ])
      | (refine det_op (v := ?_) rfl (by rfl) (fun w' hS => ?_) ?_; rotate_left; (focus (obtain ⟨hcl, hxt⟩ := hS; go_wp2_with (first | ((with_reducible refine (CB.out _ (hgx.ext hxt)).mono ?_); rintro e w1 ⟨rfl, hx1⟩) | ((with_reducible refine (rawOf_any x0 x1 x2 x3 x4 kd n0 n1 n2 n3 n4 n5 n6 _).mono ?_); rintro e w1 ⟨rfl, hx1⟩)); (first | refine ⟨?_, rfl, hcl, hxt⟩ | refine ⟨?_, rfl, Stood.of (hxt.trans (by assumption))⟩); (first | (simp only [List.getElem?_toArray, List.getElem?_cons_succ, List.getElem?_cons_zero]; rfl) | rfl))); simp only [Act.put, List.setIfInBounds_toArray, List.set_cons_zero, List.set_cons_succ]))
    refine det_end ?_
    intro w5 hS
    have hx5 := hS.2
    clear hS
    go_wp2_with fail
    go_ret
    exact ⟨ret_bool (by simp), (hx.trans ((Ext.refl _).alloc _)).trans hx5⟩

set_option maxRecDepth 100000 in
theorem walk : Frame.WalksP Rows.headReadsRow.laid 4 Tryz.f4 := by
  intro H enc W base args ds p hL hSh hval hA hsz
  have hg := Frame.handle_of_laidB rfl hL
  have hm := HasMax.ofShaped hSh
  rw [Tryz.params4] at hA hval hsz
  obtain ⟨v0, d0, rfl, rfl, h0⟩ := trodAll_one hA
  obtain ⟨s, rfl, rfl, rfl, hs⟩ := open_string Tryz.underlying9 (hval 0 9 v0 rfl rfl) h0
  exact law s W hg hm

/-! ### The row and the card -/
theorem plain : Frame.Plain Rows.headReadsSpec Tryz.f4 := by
  refine ⟨rfl, fun H ds h => ?_⟩
  rw [Tryz.params4] at h
  match ds, h with
  | [_], _ => rfl
theorem read : ∀ t ∈ Tryz.f4.params.toList, Tryz.prog.readableRec t = true ∧ t < Tryz.prog.types.size := by
  rw [Tryz.params4]
  intro t ht
  simp at ht
  subst ht
  all_goals exact ⟨by kernel_rfl, of_decide_eq_true (by kernel_rfl)⟩
theorem reads (os : Os) {H : Type} (enc : TypeId × Value → H) : ∃ places, DataW.whole enc Tryz.prog ((Frame.bothWorld os Rows.headReadsRow.laid).forCall (fun _ _ => 0) ⟨#[], #[.string ⟨#[]⟩], []⟩).memory Tryz.f4.params.toList Rows.headReadsSpec.vars false (#[.string ⟨#[]⟩] : Array Value).toList 8 = some ([.lit (.string [])], [], places) :=
  ⟨[], by kernel_rfl⟩
set_option maxRecDepth 100000 in
theorem lifted (os : Os) (started : os.Started) (H : Type) (enc : TypeId × Value → H) (Fi : Stop.Interp) :
    ReturnsInHanded {} Tryz.checked os 4 .any ((OpenSpec.ofChange Rows.headReadsSpec).preRow enc Tryz.prog Tryz.f4 Rows.headReadsRow.domain false Rows.headReadsRow.laid) (((OpenSpec.ofChange Rows.headReadsSpec).at Fi).post enc Tryz.prog Tryz.f4 false true false false) := by
  obtain ⟨places, hx⟩ := reads os enc
  exact Frame.liftedP Tryz.func4 (by kernel_rfl) plain (by kernel_rfl) read walk os started H enc Fi
    (Frame.witness_zip (enc := enc) (C := Tryz.checked) false (Frame.bothWorld os Rows.headReadsRow.laid) #[.string ⟨#[]⟩] rfl (by kernel_rfl) (by kernel_rfl) (by kernel_rfl)
      (OpenSpec.preRow_of_cond 8 hx (by kernel_rfl) (fun k hk => by cases hk) (by kernel_rfl) (Frame.bothWorld_met _ (by kernel_rfl) (by kernel_rfl) (by kernel_rfl))))
set_option maxRecDepth 100000 in
theorem said : Rows.HeadReadsSaid :=
  OpenClaim.holds_of_cond 4 Tryz.f4 rfl rfl rfl rfl rfl rfl rfl ⟨rfl, rfl, rfl, rfl, rfl⟩ rfl rfl rfl rfl rfl (by kernel_rfl) Tryz.func4 (by kernel_rfl)
    (of_decide_eq_true (by kernel_rfl)) (by unfold Func.isWrapper; first | (rw [if_pos (by decide +kernel)]; kernel_rfl) | (rw [if_neg (by decide +kernel)]; exact ⟨rfl, rfl⟩))
    (fun os started H enc _ F => by rw [OpenClaim.pre_eq_preRow]; exact lifted os started H enc F)
theorem looks (f : FuncId) (fn : Func) (hf : Tryz.pinned.checked.prog.funcNamed "revetment/revetmentlaw.HeadReads" = some f) (hfn : Tryz.pinned.checked.prog.funcs[f]? = some fn) :
    Rows.headReadsCard.stood.looks = Tryz.pinned.checked.prog.looks [] ∧ ∀ (j : Nat) t, fn.params[j]? = some t → Tryz.pinned.checked.prog.wantsStandIn t = false := by
  obtain rfl : f = 4 := Option.some.inj ((show Tryz.prog.funcNamed "revetment/revetmentlaw.HeadReads" = some 4 by kernel_rfl).symm.trans hf) |>.symm
  obtain rfl : fn = Tryz.f4 := (Option.some.inj (Tryz.func4.symm.trans hfn)).symm
  refine ⟨by kernel_rfl, fun j t ht => ?_⟩
  rw [Tryz.params4] at ht
  have ht' := Array.mem_of_getElem? ht
  simp at ht'
  subst ht'
  · exact (show Tryz.prog.wantsStandIn 9 = false by kernel_rfl)
theorem headReads_holds : Rows.HeadReadsCardSaid :=
  Claim7.holds_tied_plain_at .later [] _ _ _ _ said (fun _ h => by cases h) (by kernel_rfl) (fun _ h => by cases h) headReads_row_tie rfl ⟨rfl, rfl⟩ (by kernel_rfl) rfl looks (by kernel_rfl)
#print axioms headReads_holds
end Go.Proofs.YtbofobakphlpbaaGreatDoor.headReads
