/-
  The law MemberGnu holds: Write returns what the reference returns for Gnu, including long names and pieces. No conditions.
-/
import Derived.Test.YtnbcbipigiopbaaGreatDoorMwGr
import Derived.Test.YtnbcbipigiopbaaGreatDoorMwSw
import Derived.Test.YtnbcbipigiopbaaGreatDoorPkL
import Derived.Test.YtnbcbipigiopbaaGreatDoorMgF
namespace Go.Proofs.YtnbcbipigiopbaaGreatDoor.memberGnu
open Go.ChangeShapes Go.WideShapes Go.ChangeAt Go.RowKit Go.Joins

/-- Gnu on both sides. -/
theorem gnu_both (e : Ent) (ok : e.Ok) (A S : Nat → Int) (w : World) (hp : IsPieces w (.slice e.pa e.pn e.pc) e.pn A S) (hcap : e.pn ≤ e.pc) (hm : HasMax w) (hl : largeB e = false) :
    ∃ (s : ByteArray) (k : Int), (∀ W, Ext w W → Calls Tryz.prog 17 #[.int .i64 3, .agg #[.string e.nm, .int .u8 e.kd, .int .i64 e.md, .int .i64 e.ui, .int .i64 e.gi, .int .i64 e.sz, .int .i64 e.ts, .int .i64 e.tn, .string e.lk, .string e.us, .string e.gr, .int .i64 e.ma, .int .i64 e.mi, .string e.dt, .slice e.pa e.pn e.pc]] W fun x w' => x = .returned (.tuple #[.string s, .int .i64 k]) ∧ Ext W w') ∧ (∀ W, Ext w W → Calls Tryz.prog 18 #[.int .i64 3, .agg #[.string e.nm, .int .u8 e.kd, .int .i64 e.md, .int .i64 e.ui, .int .i64 e.gi, .int .i64 e.sz, .int .i64 e.ts, .int .i64 e.tn, .string e.lk, .string e.us, .string e.gr, .int .i64 e.ma, .int .i64 e.mi, .string e.dt, .slice e.pa e.pn e.pc]] W fun x w' => x = .returned (.tuple #[.string s, errOf k]) ∧ Ext W w') := by
  obtain ⟨hn, hd⟩ := large_not hl
  cases hmem : memB e.kd e.md e.ui e.gi e.sz e.ts e.tn e.ma e.mi e.nm e.lk e.us e.gr e.dt e.pn A S with
  | false => exact ⟨⟨#[]⟩, 1, fun W hW => refArg_any e ok A S W (hp.ext hW) 3 (.inr (.inr hmem)), fun W hW => writeArg_any e ok A S W (hp.ext hW) 3 (.inr (.inr hmem))⟩
  | true =>
    have mo := memOk hmem
    have h1 := namB_size e.kd e.nm
    have h2 := mo.nm
    have h3 := mo.lk
    have h4 := mo.us
    have h5 := mo.gr
    have hc1 := cutB_size (namB e.kd e.nm)
    have hc2 := cutB_size e.lk
    have hk : 0 ≤ kdS e ∧ kdS e < 256 := by
      unfold kdS
      have := mo.kd0
      have := mo.kd1
      split <;> omega
    obtain ⟨hK, HK⟩ := long_any e.lk 75 (by omega) (by decide) (by decide)
    obtain ⟨hL, HL⟩ := long_any (namB e.kd e.nm) 76 (by omega) (by decide) (by decide)
    obtain ⟨h, k, HW⟩ := wrn_ways 3 e.us e.gr (kdS e) e.md e.ui e.gi e.dt.size e.ts e.ma e.mi (cutB (namB e.kd e.nm)) (cutB e.lk) (by omega) (by omega) (by omega) (by omega) hk.1 hk.2
      (by have := mo.md0; omega) (by have := mo.md1; omega) (by have := mo.ui0; omega) (by have := mo.ui1; omega) (by have := mo.gi0; omega) (by have := mo.gi1; omega) (by omega) (by omega) (by have := mo.ts0; omega) (by have := mo.ts1; omega)
      (by have := mo.ma0; omega) (by have := mo.ma1; omega) (by have := mo.mi0; omega) (by have := mo.mi1; omega)
    exact ⟨gnuV e A S hK hL h k, gnuE e k, fun W hW => refGnu_sw e ok A S W (hp.ext hW) hmem (by omega) _ _ (fun W2 hW2 => refGnu_any e ok A S W2 ((hp.ext hW).ext hW2) mo (by omega) hK hL h k HK HL HW (hm.ext (hW.trans hW2))),
      fun W hW => writeGnu_sw e ok A S W (hp.ext hW) hmem _ _ (fun W2 hW2 => writeGnu_any e ok A S W2 ((hp.ext hW).ext hW2) hcap mo (by omega) hK hL h k HK HL HW (hm.ext (hW.trans hW2)))⟩

set_option maxRecDepth 100000 in
theorem law (e : Ent) (ok : e.Ok) (A S : Nat → Int) (w : World) (hp : IsPieces w (.slice e.pa e.pn e.pc) e.pn A S) (hcap : e.pn ≤ e.pc) (hg : HasHandle w) (hm : HasMax w) :
    Calls Tryz.prog 4 #[.agg #[.string e.nm, .int .u8 e.kd, .int .i64 e.md, .int .i64 e.ui, .int .i64 e.gi, .int .i64 e.sz, .int .i64 e.ts, .int .i64 e.tn, .string e.lk, .string e.us, .string e.gr, .int .i64 e.ma, .int .i64 e.mi, .string e.dt, .slice e.pa e.pn e.pc]] w fun x w' => x = .returned (.bool true) ∧ Ext w w' := by
  have h6 := ok.pn
  have C1 := Lib.hid (fun W (hE : Ext w W) => plainOf_any 3 e ok W (hg.ext hE) (gnu_both e ok A S W (hp.ext hE) hcap (hm.ext hE)))
  clear hp hm hg
  go_enter Tryz.func4, Tryz.ntmps4
  go_wp2_with fail
  refine (C1.out _ ((Ext.refl _).alloc _)).mono ?_; rintro x w1 ⟨rfl, hx1⟩
  go_wp2_with fail
  go_ret
  exact ⟨rfl, Ext.trans ((Ext.refl w).alloc _) hx1⟩

set_option maxRecDepth 100000 in
theorem walk : Frame.WalksP Rows.memberGnuRow.laid 4 Tryz.f4 := by
  intro H enc W base args ds p hL hSh hval hA hsz
  have hg := Frame.handle_of_laidB rfl hL
  have hm := HasMax.ofShaped hSh
  rw [Tryz.params4] at hA hval hsz
  obtain ⟨v0, d0, rfl, rfl, h0⟩ := trodAll_one hA
  obtain ⟨e, A, S, rfl, ok, hp, hcap⟩ := arg_entC (hval 0 26 v0 rfl rfl) h0 hsz (j := 0) rfl rfl
  exact law e ok A S W hp hcap hg hm

/-! ### The row and the card -/
theorem plain : Frame.Plain Rows.memberGnuSpec Tryz.f4 := by
  refine ⟨rfl, fun H ds h => ?_⟩
  rw [Tryz.params4] at h
  match ds, h with
  | [_], _ => rfl
theorem read : ∀ t ∈ Tryz.f4.params.toList, Tryz.prog.readableRec t = true ∧ t < Tryz.prog.types.size := by
  rw [Tryz.params4]
  intro t ht
  simp at ht
  subst ht
  all_goals exact ⟨by kernel_rfl, of_decide_eq_true (by kernel_rfl)⟩
theorem reads (os : Os) {H : Type} (enc : TypeId × Value → H) : ∃ places, DataW.whole enc Tryz.prog ((Frame.bothWorld os Rows.memberGnuRow.laid).forCall (fun _ _ => 0) ⟨#[], #[.agg #[.string ⟨#[]⟩, .int .u8 0, .int .i64 0, .int .i64 0, .int .i64 0, .int .i64 0, .int .i64 0, .int .i64 0, .string ⟨#[]⟩, .string ⟨#[]⟩, .string ⟨#[]⟩, .int .i64 0, .int .i64 0, .string ⟨#[]⟩, .slice none 0 0]], []⟩).memory Tryz.f4.params.toList Rows.memberGnuSpec.vars false (#[.agg #[.string ⟨#[]⟩, .int .u8 0, .int .i64 0, .int .i64 0, .int .i64 0, .int .i64 0, .int .i64 0, .int .i64 0, .string ⟨#[]⟩, .string ⟨#[]⟩, .string ⟨#[]⟩, .int .i64 0, .int .i64 0, .string ⟨#[]⟩, .slice none 0 0]] : Array Value).toList 8 = some ([.agg [.lit (.string []), .lit (.int .u8 0), .lit (.int .i64 0), .lit (.int .i64 0), .lit (.int .i64 0), .lit (.int .i64 0), .agg [.lit (.int .i64 0), .lit (.int .i64 0)], .lit (.string []), .lit (.string []), .lit (.string []), .lit (.int .i64 0), .lit (.int .i64 0), .lit (.string []), .nil]], [], places) :=
  ⟨[], by kernel_rfl⟩
set_option maxRecDepth 100000 in
theorem lifted (os : Os) (started : os.Started) (H : Type) (enc : TypeId × Value → H) (Fi : Stop.Interp) :
    ReturnsInHanded {} Tryz.checked os 4 .any ((OpenSpec.ofChange Rows.memberGnuSpec).preRow enc Tryz.prog Tryz.f4 Rows.memberGnuRow.domain false Rows.memberGnuRow.laid) (((OpenSpec.ofChange Rows.memberGnuSpec).at Fi).post enc Tryz.prog Tryz.f4 false true false false) := by
  obtain ⟨places, hx⟩ := reads os enc
  exact Frame.liftedP Tryz.func4 (by kernel_rfl) plain (by kernel_rfl) read walk os started H enc Fi
    (Frame.witness_zip (enc := enc) (C := Tryz.checked) false (Frame.bothWorld os Rows.memberGnuRow.laid) #[.agg #[.string ⟨#[]⟩, .int .u8 0, .int .i64 0, .int .i64 0, .int .i64 0, .int .i64 0, .int .i64 0, .int .i64 0, .string ⟨#[]⟩, .string ⟨#[]⟩, .string ⟨#[]⟩, .int .i64 0, .int .i64 0, .string ⟨#[]⟩, .slice none 0 0]] rfl (by kernel_rfl) (by kernel_rfl) (by kernel_rfl)
      (OpenSpec.preRow_of_cond 8 hx (by kernel_rfl) (fun k hk => by cases hk) (by kernel_rfl) (Frame.bothWorld_met _ (by kernel_rfl) (by kernel_rfl) (by kernel_rfl))))
theorem instd : Tryz.f4.isInstance Tryz.pinned.checked.prog Rows.memberGnuRow.origin Rows.memberGnuRow.targs := of_decide_eq_true (by kernel_rfl)
theorem wrapped : Tryz.f4.isWrapper Tryz.pinned.checked.prog Rows.memberGnuRow.wrapper Rows.memberGnuRow.mainSum := by unfold Func.isWrapper; first | (rw [if_pos (by decide +kernel)]; kernel_rfl) | (rw [if_neg (by decide +kernel)]; exact ⟨rfl, rfl⟩)
theorem called : Tryz.pinned.checked.prog.funcNamed Rows.memberGnuRow.func = some 4 := by kernel_rfl
set_option maxRecDepth 100000 in
theorem said : Rows.MemberGnuSaid :=
  OpenClaim.holds_of_cond 4 Tryz.f4 rfl rfl rfl rfl rfl rfl rfl ⟨rfl, rfl, rfl, rfl, rfl⟩ rfl rfl rfl rfl rfl called Tryz.func4 joined instd wrapped
    (fun os started H enc _ F => by rw [OpenClaim.pre_eq_preRow]; exact lifted os started H enc F)
theorem byText : Rows.memberGnuRow.wfByText (OpenSpec.ofChange Rows.memberGnuSpec) = true := by kernel_rfl
theorem goes : false = Rows.memberGnuRow.goesBy Tryz.pinned.checked.prog := by kernel_rfl
theorem looks (f : FuncId) (fn : Func) (hf : Tryz.pinned.checked.prog.funcNamed "revetment/revetmentlaw.MemberGnu" = some f) (hfn : Tryz.pinned.checked.prog.funcs[f]? = some fn) :
    Rows.memberGnuCard.stood.looks = Tryz.pinned.checked.prog.looks [] ∧ ∀ (j : Nat) t, fn.params[j]? = some t → Tryz.pinned.checked.prog.wantsStandIn t = false := by
  obtain rfl : f = 4 := Option.some.inj ((show Tryz.prog.funcNamed "revetment/revetmentlaw.MemberGnu" = some 4 by kernel_rfl).symm.trans hf) |>.symm
  obtain rfl : fn = Tryz.f4 := (Option.some.inj (Tryz.func4.symm.trans hfn)).symm
  refine ⟨by kernel_rfl, fun j t ht => ?_⟩
  rw [Tryz.params4] at ht
  have ht' := Array.mem_of_getElem? ht
  simp at ht'
  subst ht'
  · exact (show Tryz.prog.wantsStandIn 26 = false by kernel_rfl)
set_option maxRecDepth 100000 in
theorem memberGnu_holds : Rows.MemberGnuCardSaid :=
  Claim7.holds_tied_plain_at .later [] _ _ _ _ said (fun _ h => by cases h) byText (fun _ h => by cases h) memberGnu_row_tie rfl ⟨rfl, rfl⟩ (by kernel_rfl) rfl looks goes
#print axioms memberGnu_holds
end Go.Proofs.YtnbcbipigiopbaaGreatDoor.memberGnu
