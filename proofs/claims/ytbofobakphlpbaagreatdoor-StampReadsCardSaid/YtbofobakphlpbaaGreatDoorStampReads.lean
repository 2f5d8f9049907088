/-
  The law StampReads holds: stamp.Parse returns what the reference returns for any text. No conditions.
-/
import Derived.Test.YtbofobakphlpbaaGreatDoorTpR
import Derived.Test.YtbofobakphlpbaaGreatDoorTpP
import Derived.Test.YtbofobakphlpbaaGreatDoorFrameB
import Derived.Test.YtbofobakphlpbaaGreatDoorWit
import Derived.ChangeKeysEq
namespace Go.Proofs.YtbofobakphlpbaaGreatDoor.stampReads
open Go.ChangeShapes Go.WideShapes Go.ChangeAt Go.RowKit Go.Joins
open Go.ChangeMaps (open_string shut_string)

theorem eqlTd (d : Nat) (x1 x2 : Int) (w : World) (e : ∀ x : Int, (Op.equalIn d 3 (.int .i64 x) (.int .i64 x)).run Tryz.prog w = .ok true w) : (Op.equalIn (d + 1) 51 (.agg #[.int .i64 x1, .int .i64 x2]) (.agg #[.int .i64 x1, .int .i64 x2])).run Tryz.prog w = .ok true w := by
  simp only [Op.equalIn, Sem.run_bind, run_underlying Tryz.underlying51, Result.andThen_ok]
  simp [part, isAgg, run_underlying Tryz.underlying3, e]
theorem eqlT (x1 x2 : Int) (w : World) : (Op.equalIn 10000 51 (.agg #[.int .i64 x1, .int .i64 x2]) (.agg #[.int .i64 x1, .int .i64 x2])).run Tryz.prog w = .ok true w :=
  eqlTd 9999 x1 x2 w fun x => by
    rw [show (9999 : Nat) = 9998 + 1 from rfl, run_equalIn_int w 9998 _ .i64 .i64 _ _ Tryz.underlying3]; simp

set_option maxHeartbeats 4000000 in
set_option maxRecDepth 100000 in
theorem law (s : ByteArray) (w : World) (hg : HasHandle w) (hm : HasMax w) : Calls Tryz.prog 6 #[.string s] w fun e w' => e = .returned (.bool true) ∧ Ext w w' := by
  by_cases h : 60 < (s.size : Int)
  · go_enter Tryz.func6, Tryz.ntmps6
    go_wp2_with fail
    go_ret
    exact ⟨ret_bool (by simp), (by show Below _ _ _; repeat' (first | (with_reducible exact Below.refl _ _) | (with_reducible assumption) | (with_reducible refine belowDrewN ?_ _) | (with_reducible refine Below.alloc ?_ ?_ _) | (with_reducible refine Below.drew ?_) | (with_reducible refine Below.setCell ?_ ?_ _) | go_size))⟩
  · have C2 := Lib.hid (fun w => timeParse_any s (by omega) w)
    have C1 := Lib.hid (fun w hm => stampParse_any s (by omega) w hm)
    generalize (pV s).1 = a at *
    generalize (pV s).2.1 = b at *
    generalize (pV s).2.2 = k at *
    have Q : ∀ W, _ := eqlT a b
    have CB : Hid (∀ w, HasHandle w → Calls Tryz.prog 13 #[errOf k, .int .i64 k] w fun r w' => r = .returned (.bool true) ∧ Ext w w') := Lib.hid (fun w h => by
      have := bare_any k k w h
      rwa [beq_self_eq_true] at this)
    go_enter Tryz.func6, Tryz.ntmps6
    go_wp2_with fail
    refine (C2.out _).mono ?_; rintro e w1 ⟨rfl, hx1⟩
    go_wp2_with fail
    refine (C1.out _ (hm.ext (hx1.trans ((Ext.refl _).alloc _)))).mono ?_; rintro e w2 ⟨rfl, hx2⟩
    obtain ⟨r1, r2, _, _, r5⟩ := tp_box hx2
    have hy2 := (hx1.trans ((Ext.refl _).alloc _)).trans hx2
    go_wp2_with fail
    refine (CB.out _ (hg.ext (hy2.trans ((Ext.refl _).alloc _)))).mono ?_; rintro e w3 ⟨rfl, hx3⟩
    obtain ⟨g1, g2, _, _, g5⟩ := tp_box hx3
    have r6 := hx3.cell (show (w2.alloc (.cells #[.int .i64 a, .int .i64 b] 51)).cell? ⟨w1.heap.size, 0, none⟩ = some (.int .i64 a) by exact ((Ext.refl w2).alloc _).cell r1)
    have r7 := hx3.cell (show (w2.alloc (.cells #[.int .i64 a, .int .i64 b] 51)).cell? ⟨w1.heap.size, 1, none⟩ = some (.int .i64 b) by exact ((Ext.refl w2).alloc _).cell r2)
    have r8 : w1.heap.size < w3.heap.size := World.block_lt_of_cell? w3 _ r6
    go_wp2_with fail
    go_ret
    exact ⟨rfl, (hy2.trans ((Ext.refl _).alloc _)).trans hx3⟩

set_option maxRecDepth 100000 in
theorem walk : Frame.WalksP Rows.stampReadsRow.laid 6 Tryz.f6 := by
  intro H enc W base args ds p hL hSh hval hA hsz
  have hg := Frame.handle_of_laidB rfl hL
  have hm := HasMax.ofShaped hSh
  rw [Tryz.params6] at hA hval hsz
  obtain ⟨v0, d0, rfl, rfl, h0⟩ := trodAll_one hA
  obtain ⟨s, rfl, rfl, rfl, hs⟩ := open_string Tryz.underlying9 (hval 0 9 v0 rfl rfl) h0
  exact law s W hg hm

/-! ### The row and the card -/
theorem plain : Frame.Plain Rows.stampReadsSpec Tryz.f6 := by
  refine ⟨rfl, fun H ds h => ?_⟩
  rw [Tryz.params6] at h
  match ds, h with
  | [_], _ => rfl
theorem read : ∀ t ∈ Tryz.f6.params.toList, Tryz.prog.readableRec t = true ∧ t < Tryz.prog.types.size := by
  rw [Tryz.params6]
  intro t ht
  simp at ht
  subst ht
  all_goals exact ⟨by kernel_rfl, of_decide_eq_true (by kernel_rfl)⟩
theorem reads (os : Os) {H : Type} (enc : TypeId × Value → H) : ∃ places, DataW.whole enc Tryz.prog ((Frame.bothWorld os Rows.stampReadsRow.laid).forCall (fun _ _ => 0) ⟨#[], #[.string ⟨#[]⟩], []⟩).memory Tryz.f6.params.toList Rows.stampReadsSpec.vars false (#[.string ⟨#[]⟩] : Array Value).toList 8 = some ([.lit (.string [])], [], places) :=
  ⟨[], by kernel_rfl⟩
set_option maxRecDepth 100000 in
theorem lifted (os : Os) (started : os.Started) (H : Type) (enc : TypeId × Value → H) (Fi : Stop.Interp) :
    ReturnsInHanded {} Tryz.checked os 6 .any ((OpenSpec.ofChange Rows.stampReadsSpec).preRow enc Tryz.prog Tryz.f6 Rows.stampReadsRow.domain false Rows.stampReadsRow.laid) (((OpenSpec.ofChange Rows.stampReadsSpec).at Fi).post enc Tryz.prog Tryz.f6 false true false false) := by
  obtain ⟨places, hx⟩ := reads os enc
  exact Frame.liftedP Tryz.func6 (by kernel_rfl) plain (by kernel_rfl) read walk os started H enc Fi
    (Frame.witness_zip (enc := enc) (C := Tryz.checked) false (Frame.bothWorld os Rows.stampReadsRow.laid) #[.string ⟨#[]⟩] rfl (by kernel_rfl) (by kernel_rfl) (by kernel_rfl)
      (OpenSpec.preRow_of_cond 8 hx (by kernel_rfl) (fun k hk => by cases hk) (by kernel_rfl) (Frame.bothWorld_met _ (by kernel_rfl) (by kernel_rfl) (by kernel_rfl))))
set_option maxRecDepth 100000 in
theorem said : Rows.StampReadsSaid :=
  OpenClaim.holds_of_cond 6 Tryz.f6 rfl rfl rfl rfl rfl rfl rfl ⟨rfl, rfl, rfl, rfl, rfl⟩ rfl rfl rfl rfl rfl (by kernel_rfl) Tryz.func6 (by kernel_rfl)
    (of_decide_eq_true (by kernel_rfl)) (by unfold Func.isWrapper; first | (rw [if_pos (by decide +kernel)]; kernel_rfl) | (rw [if_neg (by decide +kernel)]; exact ⟨rfl, rfl⟩))
    (fun os started H enc _ F => by rw [OpenClaim.pre_eq_preRow]; exact lifted os started H enc F)
theorem looks (f : FuncId) (fn : Func) (hf : Tryz.pinned.checked.prog.funcNamed "revetment/revetmentlaw.StampReads" = some f) (hfn : Tryz.pinned.checked.prog.funcs[f]? = some fn) :
    Rows.stampReadsCard.stood.looks = Tryz.pinned.checked.prog.looks [] ∧ ∀ (j : Nat) t, fn.params[j]? = some t → Tryz.pinned.checked.prog.wantsStandIn t = false := by
  obtain rfl : f = 6 := Option.some.inj ((show Tryz.prog.funcNamed "revetment/revetmentlaw.StampReads" = some 6 by kernel_rfl).symm.trans hf) |>.symm
  obtain rfl : fn = Tryz.f6 := (Option.some.inj (Tryz.func6.symm.trans hfn)).symm
  refine ⟨by kernel_rfl, fun j t ht => ?_⟩
  rw [Tryz.params6] at ht
  have ht' := Array.mem_of_getElem? ht
  simp at ht'
  subst ht'
  · exact (show Tryz.prog.wantsStandIn 9 = false by kernel_rfl)
theorem stampReads_holds : Rows.StampReadsCardSaid :=
  Claim7.holds_tied_plain_at .later [] _ _ _ _ said (fun _ h => by cases h) (by kernel_rfl) (fun _ h => by cases h) stampReads_row_tie rfl ⟨rfl, rfl⟩ (by kernel_rfl) rfl looks (by kernel_rfl)
#print axioms stampReads_holds
end Go.Proofs.YtbofobakphlpbaaGreatDoor.stampReads
