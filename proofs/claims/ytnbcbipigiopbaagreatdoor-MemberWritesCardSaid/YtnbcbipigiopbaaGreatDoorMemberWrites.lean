/-
  The law MemberWrites holds: Write returns what the reference returns for any dialect and member. No conditions.
-/
import Derived.Test.YtnbcbipigiopbaaGreatDoorMwB
import Derived.Test.YtnbcbipigiopbaaGreatDoorPkL
import Derived.Test.YtnbcbipigiopbaaGreatDoorPowL
import Derived.Test.YtnbcbipigiopbaaGreatDoorMvF
namespace Go.Proofs.YtnbcbipigiopbaaGreatDoor.memberWrites
open Go.ChangeShapes Go.WideShapes Go.ChangeAt Go.RowKit Go.Joins

theorem small {p q : ByteArray → Int → Prop} (h : ∃ (x : ByteArray) (k : Int), x.size ≤ 20000 ∧ p x k ∧ q x k) : ∃ (x : ByteArray) (k : Int), p x k ∧ q x k := by
  obtain ⟨x, k, _, a, b⟩ := h
  exact ⟨x, k, a, b⟩

set_option maxRecDepth 100000 in
theorem law (d : Int) (e : Ent) (ok : e.Ok) (A S : Nat → Int) (w : World) (hp : IsPieces w (.slice e.pa e.pn e.pc) e.pn A S) (hcap : e.pn ≤ e.pc) (hg : HasHandle w) (hm : HasMax w) (ht : HasPow w) :
    Calls Tryz.prog 3 #[.int .i64 d, .agg #[.string e.nm, .int .u8 e.kd, .int .i64 e.md, .int .i64 e.ui, .int .i64 e.gi, .int .i64 e.sz, .int .i64 e.ts, .int .i64 e.tn, .string e.lk, .string e.us, .string e.gr, .int .i64 e.ma, .int .i64 e.mi, .string e.dt, .slice e.pa e.pn e.pc]] w fun x w' => x = .returned (.bool true) ∧ Ext w w' := by
  have h6 := ok.pn
  have C1 := Lib.hid (fun W (hE : Ext w W) => plainOf_any d e ok W (hg.ext hE) (fun hl => small (any_both d e ok A S W (hp.ext hE) hcap (hm.ext hE) (ht.ext hE) hl)))
  clear hp hm hg ht
  go_enter Tryz.func3, Tryz.ntmps3
  go_wp2_with fail
  refine (C1.out _ ((Ext.refl _).alloc _)).mono ?_; rintro x w1 ⟨rfl, hx1⟩
  go_wp2_with fail
  go_ret
  exact ⟨rfl, Ext.trans ((Ext.refl w).alloc _) hx1⟩

set_option maxRecDepth 100000 in
theorem walk : Frame.WalksP Rows.memberWritesRow.laid 3 Tryz.f3 := by
  intro H enc W base args ds p hL hSh hval hA hsz
  have hg := Frame.handle_of_laidB rfl hL
  have hm := HasMax.ofShaped hSh
  have ht := pow_of_laidB (Frame.data_of_laidB rfl hL)
  rw [Tryz.params3] at hA hval hsz
  obtain ⟨v0, v1, d0, d1, p0, p1, rfl, rfl, rfl, h0, h1⟩ := trodAll_two hA
  obtain ⟨d, rfl, rfl, rfl, wd⟩ := open_int Tryz.underlying3 (hval 0 3 v0 rfl rfl) h0
  obtain ⟨e, A, S, rfl, ok, hp, hcap⟩ := arg_entC (hval 1 26 v1 rfl rfl) h1 hsz (j := 1) rfl rfl
  exact law d e ok A S W hp hcap hg hm ht

/-! ### The row and the card -/
theorem plain : Frame.Plain Rows.memberWritesSpec Tryz.f3 := by
  refine ⟨rfl, fun H ds h => ?_⟩
  rw [Tryz.params3] at h
  match ds, h with
  | [_, _], _ => rfl
theorem read : ∀ t ∈ Tryz.f3.params.toList, Tryz.prog.readableRec t = true ∧ t < Tryz.prog.types.size := by
  rw [Tryz.params3]
  intro t ht
  simp at ht
  rcases ht with rfl | rfl
  all_goals exact ⟨by kernel_rfl, of_decide_eq_true (by kernel_rfl)⟩
theorem reads (os : Os) {H : Type} (enc : TypeId × Value → H) : ∃ places, DataW.whole enc Tryz.prog ((Frame.bothWorld os Rows.memberWritesRow.laid).forCall (fun _ _ => 0) ⟨#[], #[.int .i64 0, .agg #[.string ⟨#[]⟩, .int .u8 0, .int .i64 0, .int .i64 0, .int .i64 0, .int .i64 0, .int .i64 0, .int .i64 0, .string ⟨#[]⟩, .string ⟨#[]⟩, .string ⟨#[]⟩, .int .i64 0, .int .i64 0, .string ⟨#[]⟩, .slice none 0 0]], []⟩).memory Tryz.f3.params.toList Rows.memberWritesSpec.vars false (#[.int .i64 0, .agg #[.string ⟨#[]⟩, .int .u8 0, .int .i64 0, .int .i64 0, .int .i64 0, .int .i64 0, .int .i64 0, .int .i64 0, .string ⟨#[]⟩, .string ⟨#[]⟩, .string ⟨#[]⟩, .int .i64 0, .int .i64 0, .string ⟨#[]⟩, .slice none 0 0]] : Array Value).toList 8 = some ([.lit (.int .i64 0), .agg [.lit (.string []), .lit (.int .u8 0), .lit (.int .i64 0), .lit (.int .i64 0), .lit (.int .i64 0), .lit (.int .i64 0), .agg [.lit (.int .i64 0), .lit (.int .i64 0)], .lit (.string []), .lit (.string []), .lit (.string []), .lit (.int .i64 0), .lit (.int .i64 0), .lit (.string []), .nil]], [], places) :=
  ⟨[], by kernel_rfl⟩
set_option maxRecDepth 100000 in
theorem lifted (os : Os) (started : os.Started) (H : Type) (enc : TypeId × Value → H) (Fi : Stop.Interp) :
    ReturnsInHanded {} Tryz.checked os 3 .any ((OpenSpec.ofChange Rows.memberWritesSpec).preRow enc Tryz.prog Tryz.f3 Rows.memberWritesRow.domain false Rows.memberWritesRow.laid) (((OpenSpec.ofChange Rows.memberWritesSpec).at Fi).post enc Tryz.prog Tryz.f3 false true false false) := by
  obtain ⟨places, hx⟩ := reads os enc
  exact Frame.liftedP Tryz.func3 (by kernel_rfl) plain (by kernel_rfl) read walk os started H enc Fi
    (Frame.witness_zip (enc := enc) (C := Tryz.checked) false (Frame.bothWorld os Rows.memberWritesRow.laid) #[.int .i64 0, .agg #[.string ⟨#[]⟩, .int .u8 0, .int .i64 0, .int .i64 0, .int .i64 0, .int .i64 0, .int .i64 0, .int .i64 0, .string ⟨#[]⟩, .string ⟨#[]⟩, .string ⟨#[]⟩, .int .i64 0, .int .i64 0, .string ⟨#[]⟩, .slice none 0 0]] rfl (by kernel_rfl) (by kernel_rfl) (by kernel_rfl)
      (OpenSpec.preRow_of_cond 8 hx (by kernel_rfl) (fun k hk => by cases hk) (by kernel_rfl) (Frame.bothWorld_met _ (by kernel_rfl) (by kernel_rfl) (by kernel_rfl))))
theorem instd : Tryz.f3.isInstance Tryz.pinned.checked.prog Rows.memberWritesRow.origin Rows.memberWritesRow.targs := of_decide_eq_true (by kernel_rfl)
theorem wrapped : Tryz.f3.isWrapper Tryz.pinned.checked.prog Rows.memberWritesRow.wrapper Rows.memberWritesRow.mainSum := by unfold Func.isWrapper; first | (rw [if_pos (by decide +kernel)]; kernel_rfl) | (rw [if_neg (by decide +kernel)]; exact ⟨rfl, rfl⟩)
theorem called : Tryz.pinned.checked.prog.funcNamed Rows.memberWritesRow.func = some 3 := by kernel_rfl
set_option maxRecDepth 100000 in
theorem said : Rows.MemberWritesSaid :=
  OpenClaim.holds_of_cond 3 Tryz.f3 rfl rfl rfl rfl rfl rfl rfl ⟨rfl, rfl, rfl, rfl, rfl⟩ rfl rfl rfl rfl rfl called Tryz.func3 joined instd wrapped
    (fun os started H enc _ F => by rw [OpenClaim.pre_eq_preRow]; exact lifted os started H enc F)
theorem byText : Rows.memberWritesRow.wfByText (OpenSpec.ofChange Rows.memberWritesSpec) = true := by kernel_rfl
theorem goes : false = Rows.memberWritesRow.goesBy Tryz.pinned.checked.prog := by kernel_rfl
theorem looks (f : FuncId) (fn : Func) (hf : Tryz.pinned.checked.prog.funcNamed "revetment/revetmentlaw.MemberWrites" = some f) (hfn : Tryz.pinned.checked.prog.funcs[f]? = some fn) :
    Rows.memberWritesCard.stood.looks = Tryz.pinned.checked.prog.looks [] ∧ ∀ (j : Nat) t, fn.params[j]? = some t → Tryz.pinned.checked.prog.wantsStandIn t = false := by
  obtain rfl : f = 3 := Option.some.inj ((show Tryz.prog.funcNamed "revetment/revetmentlaw.MemberWrites" = some 3 by kernel_rfl).symm.trans hf) |>.symm
  obtain rfl : fn = Tryz.f3 := (Option.some.inj (Tryz.func3.symm.trans hfn)).symm
  refine ⟨by kernel_rfl, fun j t ht => ?_⟩
  rw [Tryz.params3] at ht
  have ht' := Array.mem_of_getElem? ht
  simp at ht'
  rcases ht' with rfl | rfl
  · exact (show Tryz.prog.wantsStandIn 3 = false by kernel_rfl)
  · exact (show Tryz.prog.wantsStandIn 26 = false by kernel_rfl)
set_option maxRecDepth 100000 in
theorem memberWrites_holds : Rows.MemberWritesCardSaid :=
  Claim7.holds_tied_plain_at .later [] _ _ _ _ said (fun _ h => by cases h) byText (fun _ h => by cases h) memberWrites_row_tie rfl ⟨rfl, rfl⟩ (by kernel_rfl) rfl looks goes
#print axioms memberWrites_holds
end Go.Proofs.YtnbcbipigiopbaaGreatDoor.memberWrites
