/-
  The law HoleLays holds: hole.Put returns what the reference returns for any arguments. No conditions.
-/
import Derived.Test.YtedcibjnnihhfaaDoorPutRef
import Derived.Test.YtedcibjnnihhfaaDoorPieces
import Derived.Test.YtedcibjnnihhfaaDoorFrameD
namespace Go.Proofs.YtedcibjnnihhfaaDoor.holeLays
open Go.ChangeShapes Go.WideShapes Go.ChangeAt Go.RowKit
open Go.ChangeMaps (open_string shut_string)

set_option maxRecDepth 100000 in
theorem law (s : ByteArray) (v : Value) (n : Nat) (A S : Nat → Int) (size : Int) (w : World) (hg : HasHandle w) (hs : s.size ≤ 140737488351232) (hz : size ≤ 9223372036854775807) (h : IsPieces w v n A S) :
    Calls Tryd.prog 3 #[.string s, v, .int .i64 size] w fun e w' => e = .returned (.bool true) ∧ Ext w w' := by
  have C1 := Lib.hid (fun (w' : World) (h6 : s.size ≤ 600) (hE : Ext w w') => put_any w' s v n A S size h6 hz (h.ext hE))
  have C2 := Lib.hid (fun (w' : World) (h6 : s.size ≤ 600) (hE : Ext w w') => mapPut_any w' s v n A S size h6 hz (h.ext hE))
  have hl : ∃ a cap, v = .slice a n cap ∧ n ≤ 8796093022200 := by
    rcases h with ⟨⟨a0, c0, rfl⟩, rfl⟩ | ⟨b, off, cap, rfl, hn, _⟩
    · exact ⟨_, _, rfl, by omega⟩
    · exact ⟨_, _, rfl, hn⟩
  obtain ⟨a, cap, rfl, hn⟩ := hl
  clear h
  by_cases h6 : (600 : Int) < (s.size : Int)
  · go_enter Tryd.func3, Tryd.ntmps3
    go_wp2_with fail
    go_ret
    exact ⟨ret_bool (by simp), (by show Below _ _ _; repeat' (first | (with_reducible exact Below.refl _ _) | (with_reducible assumption) | (with_reducible refine belowDrewN ?_ _) | (with_reducible refine Below.alloc ?_ ?_ _) | (with_reducible refine Below.drew ?_) | (with_reducible refine Below.setCell ?_ ?_ _) | go_size))⟩
  · by_cases h30 : (30 : Int) < (n : Int)
    · go_enter Tryd.func3, Tryd.ntmps3
      go_wp2_with fail
      go_ret
      exact ⟨ret_bool (by simp), (by show Below _ _ _; repeat' (first | (with_reducible exact Below.refl _ _) | (with_reducible assumption) | (with_reducible refine belowDrewN ?_ _) | (with_reducible refine Below.alloc ?_ ?_ _) | (with_reducible refine Below.drew ?_) | (with_reducible refine Below.setCell ?_ ?_ _) | go_size))⟩
    · have h6' : s.size ≤ 600 := by omega
      generalize putV s n A S size = x at *
      generalize putE s.size n A S size = y at *
      go_enter Tryd.func3, Tryd.ntmps3
      go_wp2_with fail
      refine (C2.out _ h6' (Ext.refl _)).mono ?_; rintro e w1 ⟨rfl, hx1⟩
      go_wp2_with fail
      refine (C1.out _ h6' hx1).mono ?_; rintro e w2 ⟨rfl, hx2⟩
      have hy2 := hx1.trans hx2
      go_wp2_with fail
      refine (bare_any _ _ _ (hg.ext hy2)).mono ?_; rintro e w3 ⟨rfl, hx3⟩
      go_wp2_with fail
      go_ret
      exact ⟨ret_bool (by simp), hy2.trans hx3⟩

set_option maxRecDepth 100000 in
theorem walk : Frame.WalksD [("errors.errorType", Rows.laid_errors_errorType)] 3 Tryd.f3 := by
  intro H enc W base args ds p hL hval hA hsz
  have hg := Frame.handle_of_laid hL
  rw [Tryd.params3] at hA hval hsz
  obtain ⟨v0, v1, v2, d0, d1, d2, p0, p1, p2, rfl, rfl, rfl, h0, h1, h2⟩ := trodAll_three hA
  obtain ⟨n, A, S, hp⟩ := arg_pieces (hval 1 22 v1 rfl rfl) h1 hsz (j := 1) rfl rfl
  obtain ⟨s, rfl, rfl, rfl, hs⟩ := open_string Tryd.underlying9 (hval 0 9 v0 rfl rfl) h0
  obtain ⟨m, rfl, rfl, rfl, wm⟩ := open_int Tryd.underlying3 (hval 2 3 v2 rfl rfl) h2
  have z0 := sized_string hsz (j := 0) (t := 9) rfl rfl
  exact law s v1 n A S m W hg (by simpa [reachBytes] using z0) (bounds_i64 wm).2 hp

/-! ### The row and the card -/
theorem plain : Frame.Plain Rows.holeLaysSpec Tryd.f3 := by
  refine ⟨rfl, fun H ds h => ?_⟩
  rw [Tryd.params3] at h
  match ds, h with
  | [_, _, _], _ => rfl
theorem read : ∀ t ∈ Tryd.f3.params.toList, Tryd.prog.readableRec t = true ∧ t < Tryd.prog.types.size := by
  rw [Tryd.params3]
  intro t ht
  simp at ht
  rcases ht with rfl | rfl | rfl
  all_goals exact ⟨by kernel_rfl, of_decide_eq_true (by kernel_rfl)⟩
theorem reads (os : Os) {H : Type} (enc : TypeId × Value → H) : ∃ places, DataW.whole enc Tryd.prog ((Frame.laidWorld os).forCall (fun _ _ => 0) ⟨#[], #[.string ⟨#[]⟩, .slice none 0 0, .int .i64 0], []⟩).memory Tryd.f3.params.toList Rows.holeLaysSpec.vars false (#[.string ⟨#[]⟩, .slice none 0 0, .int .i64 0] : Array Value).toList 8 = some ([.lit (.string []), .nil, .lit (.int .i64 0)], [], places) :=
  ⟨[], by kernel_rfl⟩
set_option maxRecDepth 100000 in
theorem lifted (os : Os) (started : os.Started) (H : Type) (enc : TypeId × Value → H) (Fi : Stop.Interp) :
    ReturnsInHanded {} Tryd.checked os 3 .any ((OpenSpec.ofChange Rows.holeLaysSpec).preRow enc Tryd.prog Tryd.f3 Rows.holeLaysRow.domain false Rows.holeLaysRow.laid) (((OpenSpec.ofChange Rows.holeLaysSpec).at Fi).post enc Tryd.prog Tryd.f3 false true false false) := by
  obtain ⟨places, hx⟩ := reads os enc
  exact Frame.liftedD Tryd.func3 (by kernel_rfl) plain (by kernel_rfl) read walk os started H enc Fi
    (witness_row_at (enc := enc) (C := Tryd.checked) false (Frame.laidWorld os) #[.string ⟨#[]⟩, .slice none 0 0, .int .i64 0] rfl (by kernel_rfl) (by kernel_rfl) (by kernel_rfl)
      (OpenSpec.preRow_of_cond 8 hx (by kernel_rfl) (fun k hk => by cases hk) (by kernel_rfl) (Frame.laidWorld_met os _)))
set_option maxRecDepth 100000 in
theorem said : Rows.HoleLaysSaid :=
  OpenClaim.holds_of_cond 3 Tryd.f3 rfl rfl rfl rfl rfl rfl rfl ⟨rfl, rfl, rfl, rfl, rfl⟩ rfl rfl rfl rfl rfl (by kernel_rfl) Tryd.func3 (by kernel_rfl)
    (of_decide_eq_true (by kernel_rfl)) (by unfold Func.isWrapper; first | (rw [if_pos (by decide +kernel)]; kernel_rfl) | (rw [if_neg (by decide +kernel)]; exact ⟨rfl, rfl⟩))
    (fun os started H enc _ F => by rw [OpenClaim.pre_eq_preRow]; exact lifted os started H enc F)
theorem looks (f : FuncId) (fn : Func) (hf : Tryd.pinned.checked.prog.funcNamed "revetment/revetmentlaw.HoleLays" = some f) (hfn : Tryd.pinned.checked.prog.funcs[f]? = some fn) :
    Rows.holeLaysCard.stood.looks = Tryd.pinned.checked.prog.looks [] ∧ ∀ (j : Nat) t, fn.params[j]? = some t → Tryd.pinned.checked.prog.wantsStandIn t = false := by
  obtain rfl : f = 3 := Option.some.inj ((show Tryd.prog.funcNamed "revetment/revetmentlaw.HoleLays" = some 3 by kernel_rfl).symm.trans hf) |>.symm
  obtain rfl : fn = Tryd.f3 := (Option.some.inj (Tryd.func3.symm.trans hfn)).symm
  refine ⟨by kernel_rfl, fun j t ht => ?_⟩
  rw [Tryd.params3] at ht
  have ht' := Array.mem_of_getElem? ht
  simp at ht'
  rcases ht' with rfl | rfl | rfl
  · exact (show Tryd.prog.wantsStandIn 9 = false by kernel_rfl)
  · exact (show Tryd.prog.wantsStandIn 22 = false by kernel_rfl)
  · exact (show Tryd.prog.wantsStandIn 3 = false by kernel_rfl)
theorem holeLays_holds : Rows.HoleLaysCardSaid :=
  Claim7.holds_tied_plain_at .later [] _ _ _ _ said (fun _ h => by cases h) (by kernel_rfl) (fun _ h => by cases h) holeLays_row_tie rfl ⟨rfl, rfl⟩ (by kernel_rfl) rfl looks (by kernel_rfl)
#print axioms holeLays_holds
end Go.Proofs.YtedcibjnnihhfaaDoor.holeLays
