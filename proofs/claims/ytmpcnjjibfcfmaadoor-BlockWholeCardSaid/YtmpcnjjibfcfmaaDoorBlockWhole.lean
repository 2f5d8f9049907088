/-
  The law BlockWhole holds: block.Fill and block.Zero return what the reference returns for any text. No conditions.
-/
import Derived.Test.YtmpcnjjibfcfmaaDoorBlock
import Derived.Test.YtmpcnjjibfcfmaaDoorShelf
import Derived.Test.YtmpcnjjibfcfmaaDoorFrameP
namespace Go.Proofs.YtmpcnjjibfcfmaaDoor.blockWhole
open Go.ChangeShapes Go.WideShapes Go.ChangeAt Go.RowKit
open Go.ChangeMaps (open_string shut_string)

def padB (n : Nat) : ByteArray := ⟨(Lib.repeatL [0] (padI n).toNat).toArray⟩
theorem padI_rng (n : Nat) : 0 ≤ padI n ∧ padI n ≤ 511 := by unfold padI; rw [if_neg (by omega)]; omega
theorem padB_size (n : Nat) : (padB n).size ≤ 511 := by
  have := padI_rng n
  have h := Lib.repeatL_length [0] (padI n).toNat
  show (Lib.repeatL [0] (padI n).toNat).toArray.size ≤ _
  rw [List.size_toArray, h]
  simp
  omega
theorem rep_any (n : Nat) (w : World) : Calls Tryd.prog 53 #[.string ⟨#[0]⟩, .int .i64 (padI n)] w fun e w' => e = .returned (.string (padB n)) ∧ Ext w w' := by
  obtain ⟨h0, h1⟩ := padI_rng n
  have e : padI n = ((padI n).toNat : Int) := by omega
  have := Tryd.strings_Repeat ⟨#[0]⟩ (padI n).toNat w (by omega) (by show 1 * _ ≤ _; omega)
  rw [← e] at this
  exact this

set_option maxRecDepth 100000 in
theorem fill_any (s : ByteArray) (hs : s.size ≤ 100000) (w : World) : Calls Tryd.prog 31 #[.string s] w fun e w' => e = .returned (.string (s ++ padB s.size)) ∧ Ext w w' := by
  have C1 := Lib.hid (fun w => pad_any s.size w)
  have C2 := Lib.hid (fun w => rep_any s.size w)
  have hz := padB_size s.size
  generalize padB s.size = p at *
  generalize padI s.size = q at *
  go_enter Tryd.func31, Tryd.ntmps31
  go_wp2_with fail
  refine (C1.out _).mono ?_; rintro e w1 ⟨rfl, hx1⟩
  go_wp2_with fail
  refine (C2.out _).mono ?_; rintro e w2 ⟨rfl, hx2⟩
  go_wp2_with fail
  go_ret
  exact ⟨rfl, hx1.trans hx2⟩
set_option maxRecDepth 100000 in
theorem refFill_any (s : ByteArray) (hs : s.size ≤ 100000) (w : World) : Calls Tryd.prog 32 #[.string s] w fun e w' => e = .returned (.string (s ++ padB s.size)) ∧ Ext w w' := by
  have C1 := Lib.hid (fun w => refPad_any s.size (by omega) w)
  have C2 := Lib.hid (fun w => rep_any s.size w)
  have hz := padB_size s.size
  generalize padB s.size = p at *
  generalize padI s.size = q at *
  go_enter Tryd.func32, Tryd.ntmps32
  go_wp2_with fail
  refine (C1.out _).mono ?_; rintro e w1 ⟨rfl, hx1⟩
  go_wp2_with fail
  refine (C2.out _).mono ?_; rintro e w2 ⟨rfl, hx2⟩
  go_wp2_with fail
  go_ret
  exact ⟨rfl, hx1.trans hx2⟩

def trimV (s : ByteArray) : ByteArray := ⟨(Lib.trimB s.data.toList 0).toArray⟩
theorem trim_any (s : ByteArray) (hs : s.size ≤ 100000) (w : World) : Calls Tryd.prog 68 #[.string s, .string ⟨#[0]⟩] w fun e w' => e = .returned (.string (trimV s)) ∧ Ext w w' :=
  (Tryd.strings_Trim_one s 0 (by decide) w (by omega)).mono fun e w' ⟨he, hw⟩ => ⟨he, by rcases hw with rfl | rfl; exact Ext.refl _; exact (Ext.refl _).drew⟩
def zeroV (s : ByteArray) : Bool := decide (s.size = 512) && (trimV s).toList.isEmpty

set_option maxRecDepth 100000 in
theorem zero_any (s : ByteArray) (hs : s.size ≤ 100000) (w : World) : Calls Tryd.prog 33 #[.string s] w fun e w' => e = .returned (.bool (zeroV s)) ∧ Ext w w' := by
  have C1 := Lib.hid (fun w => trim_any s hs w)
  have hd : Hid (zeroV s = (decide (s.size = 512) && (trimV s).toList.isEmpty)) := Lib.hid rfl
  generalize trimV s = t at *
  by_cases h : s.size = 512
  · have h1 : ((s.size : Int) == 512) = true := by simp; omega
    have H := Lib.hid h
    clear h
    go_enter Tryd.func33, Tryd.ntmps33
    go_wp2_with fail
    refine (C1.out _).mono ?_; rintro e w1 ⟨rfl, hx1⟩
    go_wp2_with fail
    go_ret
    exact ⟨ret_bool (by rw [hd.out, H.out]; simp), hx1⟩
  · have h1 : ((s.size : Int) == 512) = false := by rw [beq_eq_false_iff_ne]; omega
    have H := Lib.hid h
    clear h
    go_enter Tryd.func33, Tryd.ntmps33
    go_wp2_with fail
    go_ret
    exact ⟨ret_bool (by rw [hd.out]; simp [H.out]), (by show Below _ _ _; repeat' (first | (with_reducible exact Below.refl _ _) | (with_reducible assumption) | (with_reducible refine belowDrewN ?_ _) | (with_reducible refine Below.alloc ?_ ?_ _) | (with_reducible refine Below.drew ?_) | (with_reducible refine Below.setCell ?_ ?_ _) | go_size))⟩
set_option maxRecDepth 100000 in
theorem refZero_any (s : ByteArray) (hs : s.size ≤ 100000) (w : World) : Calls Tryd.prog 34 #[.string s] w fun e w' => e = .returned (.bool (zeroV s)) ∧ Ext w w' := by
  have C1 := Lib.hid (fun w => trim_any s hs w)
  have hd : Hid (zeroV s = (decide (s.size = 512) && (trimV s).toList.isEmpty)) := Lib.hid rfl
  generalize trimV s = t at *
  by_cases h : s.size = 512
  · have h1 : ((s.size : Int) == 512) = true := by simp; omega
    have H := Lib.hid h
    clear h
    go_enter Tryd.func34, Tryd.ntmps34
    go_wp2_with fail
    refine (C1.out _).mono ?_; rintro e w1 ⟨rfl, hx1⟩
    go_wp2_with fail
    go_ret
    exact ⟨ret_bool (by rw [hd.out, H.out]; simp), hx1⟩
  · have h1 : ((s.size : Int) == 512) = false := by rw [beq_eq_false_iff_ne]; omega
    have H := Lib.hid h
    clear h
    go_enter Tryd.func34, Tryd.ntmps34
    go_wp2_with fail
    go_ret
    exact ⟨ret_bool (by rw [hd.out]; simp [H.out]), (by show Below _ _ _; repeat' (first | (with_reducible exact Below.refl _ _) | (with_reducible assumption) | (with_reducible refine belowDrewN ?_ _) | (with_reducible refine Below.alloc ?_ ?_ _) | (with_reducible refine Below.drew ?_) | (with_reducible refine Below.setCell ?_ ?_ _) | go_size))⟩

set_option maxRecDepth 100000 in
theorem law (s : ByteArray) (w : World) : Calls Tryd.prog 10 #[.string s] w fun e w' => e = .returned (.bool true) ∧ Ext w w' := by
  by_cases h : 1200 < (s.size : Int)
  · go_enter Tryd.func10, Tryd.ntmps10
    go_wp2_with fail
    go_ret
    exact ⟨ret_bool (by simp), (by show Below _ _ _; repeat' (first | (with_reducible exact Below.refl _ _) | (with_reducible assumption) | (with_reducible refine belowDrewN ?_ _) | (with_reducible refine Below.alloc ?_ ?_ _) | (with_reducible refine Below.drew ?_) | (with_reducible refine Below.setCell ?_ ?_ _) | go_size))⟩
  · have C1 := Lib.hid (fun w => fill_any s (by omega) w)
    have C2 := Lib.hid (fun w => refFill_any s (by omega) w)
    have C3 := Lib.hid (fun w => zero_any s (by omega) w)
    have C4 := Lib.hid (fun w => refZero_any s (by omega) w)
    generalize s ++ padB s.size = f at *
    generalize zeroV s = z at *
    go_enter Tryd.func10, Tryd.ntmps10
    go_wp2_with fail
    refine (C1.out _).mono ?_; rintro e w1 ⟨rfl, hx1⟩
    go_wp2_with fail
    refine (C2.out _).mono ?_; rintro e w2 ⟨rfl, hx2⟩
    go_wp2_with fail
    refine (C3.out _).mono ?_; rintro e w3 ⟨rfl, hx3⟩
    go_wp2_with fail
    refine (C4.out _).mono ?_; rintro e w4 ⟨rfl, hx4⟩
    go_wp2_with fail
    go_ret
    exact ⟨ret_bool (by simp), ((hx1.trans hx2).trans hx3).trans hx4⟩

set_option maxRecDepth 100000 in
theorem walk : Frame.WalksP Rows.blockWholeRow.laid 10 Tryd.f10 := by
  intro H enc W base args ds p hL hSh hval hA hsz
  rw [Tryd.params10] at hA hval hsz
  obtain ⟨v0, d0, rfl, rfl, h0⟩ := trodAll_one hA
  obtain ⟨s, rfl, rfl, rfl, hs⟩ := open_string Tryd.underlying9 (hval 0 9 v0 rfl rfl) h0
  exact law s W

/-! ### The row and the card -/
theorem plain : Frame.Plain Rows.blockWholeSpec Tryd.f10 := by
  refine ⟨rfl, fun H ds h => ?_⟩
  rw [Tryd.params10] at h
  match ds, h with
  | [_], _ => rfl
theorem read : ∀ t ∈ Tryd.f10.params.toList, Tryd.prog.readableRec t = true ∧ t < Tryd.prog.types.size := by
  rw [Tryd.params10]
  intro t ht
  simp at ht
  subst ht
  all_goals exact ⟨by kernel_rfl, of_decide_eq_true (by kernel_rfl)⟩
theorem reads (os : Os) {H : Type} (enc : TypeId × Value → H) : ∃ places, DataW.whole enc Tryd.prog ((Frame.dataWorld os Rows.blockWholeRow.laid).forCall (fun _ _ => 0) ⟨#[], #[.string ⟨#[]⟩], []⟩).memory Tryd.f10.params.toList Rows.blockWholeSpec.vars false (#[.string ⟨#[]⟩] : Array Value).toList 8 = some ([.lit (.string [])], [], places) :=
  ⟨[], by kernel_rfl⟩
set_option maxRecDepth 100000 in
theorem lifted (os : Os) (started : os.Started) (H : Type) (enc : TypeId × Value → H) (Fi : Stop.Interp) :
    ReturnsInHanded {} Tryd.checked os 10 .any ((OpenSpec.ofChange Rows.blockWholeSpec).preRow enc Tryd.prog Tryd.f10 Rows.blockWholeRow.domain false Rows.blockWholeRow.laid) (((OpenSpec.ofChange Rows.blockWholeSpec).at Fi).post enc Tryd.prog Tryd.f10 false true false false) := by
  obtain ⟨places, hx⟩ := reads os enc
  exact Frame.liftedP Tryd.func10 (by kernel_rfl) plain (by kernel_rfl) read walk os started H enc Fi
    (witness_row_at (enc := enc) (C := Tryd.checked) false (Frame.dataWorld os Rows.blockWholeRow.laid) #[.string ⟨#[]⟩] rfl (by kernel_rfl) (by kernel_rfl) (by kernel_rfl)
      (OpenSpec.preRow_of_cond 8 hx (by kernel_rfl) (fun k hk => by cases hk) (by kernel_rfl) (Frame.dataWorld_met (by kernel_rfl) _ (by kernel_rfl) (by kernel_rfl))))
set_option maxRecDepth 100000 in
theorem said : Rows.BlockWholeSaid :=
  OpenClaim.holds_of_cond 10 Tryd.f10 rfl rfl rfl rfl rfl rfl rfl ⟨rfl, rfl, rfl, rfl, rfl⟩ rfl rfl rfl rfl rfl (by kernel_rfl) Tryd.func10 (by kernel_rfl)
    (of_decide_eq_true (by kernel_rfl)) (by unfold Func.isWrapper; first | (rw [if_pos (by decide +kernel)]; kernel_rfl) | (rw [if_neg (by decide +kernel)]; exact ⟨rfl, rfl⟩))
    (fun os started H enc _ F => by rw [OpenClaim.pre_eq_preRow]; exact lifted os started H enc F)
theorem looks (f : FuncId) (fn : Func) (hf : Tryd.pinned.checked.prog.funcNamed "revetment/revetmentlaw.BlockWhole" = some f) (hfn : Tryd.pinned.checked.prog.funcs[f]? = some fn) :
    Rows.blockWholeCard.stood.looks = Tryd.pinned.checked.prog.looks [] ∧ ∀ (j : Nat) t, fn.params[j]? = some t → Tryd.pinned.checked.prog.wantsStandIn t = false := by
  obtain rfl : f = 10 := Option.some.inj ((show Tryd.prog.funcNamed "revetment/revetmentlaw.BlockWhole" = some 10 by kernel_rfl).symm.trans hf) |>.symm
  obtain rfl : fn = Tryd.f10 := (Option.some.inj (Tryd.func10.symm.trans hfn)).symm
  refine ⟨by kernel_rfl, fun j t ht => ?_⟩
  rw [Tryd.params10] at ht
  have ht' := Array.mem_of_getElem? ht
  simp at ht'
  subst ht'
  · exact (show Tryd.prog.wantsStandIn 9 = false by kernel_rfl)
theorem blockWhole_holds : Rows.BlockWholeCardSaid :=
  Claim7.holds_tied_plain_at .later [] _ _ _ _ said (fun _ h => by cases h) (by kernel_rfl) (fun _ h => by cases h) blockWhole_row_tie rfl ⟨rfl, rfl⟩ (by kernel_rfl) rfl looks (by kernel_rfl)
#print axioms blockWhole_holds
end Go.Proofs.YtmpcnjjibfcfmaaDoor.blockWhole
