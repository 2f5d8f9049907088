/-
  The law PaxRecords holds: Record returns what the reference returns for any pair. No conditions.
-/
import Derived.Test.YtedcibjnnihhfaaDoorRecR
import Derived.Test.YtedcibjnnihhfaaDoorPairArg
import Derived.Test.YtedcibjnnihhfaaDoorPowL
namespace Go.Proofs.YtedcibjnnihhfaaDoor.paxRecords
open Go.ChangeShapes Go.WideShapes Go.ChangeAt Go.RowKit Go.Joins

set_option maxHeartbeats 1600000 in
set_option maxRecDepth 100000 in
theorem law (k v : ByteArray) (hk : k.size ≤ 140737488351232) (hv : v.size ≤ 140737488351232) (w : World) (hg : HasHandle w) (ht : HasPow w) :
    Calls Tryd.prog 10 #[.agg #[.string k, .string v]] w fun e w' => e = .returned (.bool true) ∧ Ext w w' := by
  by_cases h : 500 < (k.size : Int) + v.size
  · have q1 : decide ((500 : Int) < (k.size : Int) + v.size) = true := decide_eq_true h
    clear h
    go_enter Tryd.func10, Tryd.ntmps10
    go_wp2_with fail
    go_ret
    exact ⟨ret_bool (by simp), (by show Below _ _ _; repeat' (first | (with_reducible exact Below.refl _ _) | (with_reducible assumption) | (with_reducible refine belowDrewN ?_ _) | (with_reducible refine Below.alloc ?_ ?_ _) | (with_reducible refine Below.drew ?_) | (with_reducible refine Below.setCell ?_ ?_ _) | go_size))⟩
  · have q1 : decide ((500 : Int) < (k.size : Int) + v.size) = false := decide_eq_false h
    have C1 := Lib.hid (fun w ht => refRecord_any k v (by omega) w ht)
    have C2 := Lib.hid (fun w ht => record_any k v (by omega) w ht)
    have hx0 : Ext w (w.alloc (.cells #[.string k, .string v] 59)) := (Ext.refl w).alloc _
    have hcells : ∀ W : World, Ext (w.alloc (.cells #[.string k, .string v] 59)) W → W.cell? ⟨w.heap.size, 0, none⟩ = some (.string k) ∧ W.cell? ⟨w.heap.size, 1, none⟩ = some (.string v) ∧ w.heap.size < W.heap.size := fun W hW => by
      have h1 := hW.cell (show (w.alloc (.cells #[.string k, .string v] 59)).cell? ⟨w.heap.size, 0, none⟩ = some (.string k) by simp)
      have h2 := hW.cell (show (w.alloc (.cells #[.string k, .string v] 59)).cell? ⟨w.heap.size, 1, none⟩ = some (.string v) by simp)
      exact ⟨h1, h2, World.block_lt_of_cell? W _ h1⟩
    have Hcells := Lib.hid hcells
    clear h hcells
    generalize recV k v = a at *
    generalize recE k v = b at *
    go_enter Tryd.func10, Tryd.ntmps10
    go_wp2_with fail
    refine (C1.out _ (ht.ext hx0)).mono ?_; rintro e w1 ⟨rfl, hx1⟩
    obtain ⟨g1, g2, g3⟩ := Hcells.out w1 hx1
    have hy1 := hx0.trans hx1
    go_wp2_with fail
    refine (C2.out _ (ht.ext hy1)).mono ?_; rintro e w2 ⟨rfl, hx2⟩
    have hy2 := hy1.trans hx2
    go_wp2_with fail
    refine (bare_any _ _ _ (hg.ext hy2)).mono ?_; rintro e w3 ⟨rfl, hx3⟩
    go_wp2_with fail
    go_ret
    exact ⟨ret_bool (by simp), hy2.trans hx3⟩

set_option maxRecDepth 100000 in
theorem walk : Frame.WalksP Rows.paxRecordsRow.laid 10 Tryd.f10 := by
  intro H enc W base args ds p hL hSh hval hA hsz
  have hg := Frame.handle_of_laidB rfl hL
  have ht := pow_of_laidB (Frame.data_of_laidB rfl hL)
  rw [Tryd.params10] at hA hval hsz
  obtain ⟨v0, d0, rfl, rfl, h0⟩ := trodAll_one hA
  obtain ⟨k, v, rfl, h1, h2⟩ := arg_pair (hval 0 59 v0 rfl rfl) h0 hsz (j := 0) rfl rfl
  exact law k v h1 h2 W hg ht

/-! ### The row and the card -/
theorem plain : Frame.Plain Rows.paxRecordsSpec Tryd.f10 := by
  refine ⟨rfl, fun H ds h => ?_⟩
  rw [Tryd.params10] at h
  match ds, h with
  | [_], _ => rfl
theorem read : ∀ t ∈ Tryd.f10.params.toList, Tryd.prog.readableRec t = true ∧ t < Tryd.prog.types.size := by
  rw [Tryd.params10]
  intro t ht
  simp at ht
  subst ht
  all_goals exact ⟨by kernel_rfl, of_decide_eq_true (by kernel_rfl)⟩
theorem reads (os : Os) {H : Type} (enc : TypeId × Value → H) : ∃ places, DataW.whole enc Tryd.prog ((Frame.bothWorld os Rows.paxRecordsRow.laid).forCall (fun _ _ => 0) ⟨#[], #[.agg #[.string ⟨#[]⟩, .string ⟨#[]⟩]], []⟩).memory Tryd.f10.params.toList Rows.paxRecordsSpec.vars false (#[.agg #[.string ⟨#[]⟩, .string ⟨#[]⟩]] : Array Value).toList 8 = some ([.agg [.lit (.string []), .lit (.string [])]], [], places) :=
  ⟨[], by kernel_rfl⟩
set_option maxRecDepth 100000 in
theorem lifted (os : Os) (started : os.Started) (H : Type) (enc : TypeId × Value → H) (Fi : Stop.Interp) :
    ReturnsInHanded {} Tryd.checked os 10 .any ((OpenSpec.ofChange Rows.paxRecordsSpec).preRow enc Tryd.prog Tryd.f10 Rows.paxRecordsRow.domain false Rows.paxRecordsRow.laid) (((OpenSpec.ofChange Rows.paxRecordsSpec).at Fi).post enc Tryd.prog Tryd.f10 false true false false) := by
  obtain ⟨places, hx⟩ := reads os enc
  exact Frame.liftedP Tryd.func10 (by kernel_rfl) plain (by kernel_rfl) read walk os started H enc Fi
    (Frame.witness_zip (enc := enc) (C := Tryd.checked) false (Frame.bothWorld os Rows.paxRecordsRow.laid) #[.agg #[.string ⟨#[]⟩, .string ⟨#[]⟩]] rfl (by kernel_rfl) (by kernel_rfl) (by kernel_rfl)
      (OpenSpec.preRow_of_cond 8 hx (by kernel_rfl) (fun k hk => by cases hk) (by kernel_rfl) (Frame.bothWorld_met _ (by kernel_rfl) (by kernel_rfl) (by kernel_rfl))))
set_option maxRecDepth 100000 in
theorem said : Rows.PaxRecordsSaid :=
  OpenClaim.holds_of_cond 10 Tryd.f10 rfl rfl rfl rfl rfl rfl rfl ⟨rfl, rfl, rfl, rfl, rfl⟩ rfl rfl rfl rfl rfl (by kernel_rfl) Tryd.func10 (by kernel_rfl)
    (of_decide_eq_true (by kernel_rfl)) (by unfold Func.isWrapper; first | (rw [if_pos (by decide +kernel)]; kernel_rfl) | (rw [if_neg (by decide +kernel)]; exact ⟨rfl, rfl⟩))
    (fun os started H enc _ F => by rw [OpenClaim.pre_eq_preRow]; exact lifted os started H enc F)
theorem looks (f : FuncId) (fn : Func) (hf : Tryd.pinned.checked.prog.funcNamed "revetment/revetmentlaw.PaxRecords" = some f) (hfn : Tryd.pinned.checked.prog.funcs[f]? = some fn) :
    Rows.paxRecordsCard.stood.looks = Tryd.pinned.checked.prog.looks [] ∧ ∀ (j : Nat) t, fn.params[j]? = some t → Tryd.pinned.checked.prog.wantsStandIn t = false := by
  obtain rfl : f = 10 := Option.some.inj ((show Tryd.prog.funcNamed "revetment/revetmentlaw.PaxRecords" = some 10 by kernel_rfl).symm.trans hf) |>.symm
  obtain rfl : fn = Tryd.f10 := (Option.some.inj (Tryd.func10.symm.trans hfn)).symm
  refine ⟨by kernel_rfl, fun j t ht => ?_⟩
  rw [Tryd.params10] at ht
  have ht' := Array.mem_of_getElem? ht
  simp at ht'
  subst ht'
  · exact (show Tryd.prog.wantsStandIn 59 = false by kernel_rfl)
theorem paxRecords_holds : Rows.PaxRecordsCardSaid :=
  Claim7.holds_tied_plain_at .later [] _ _ _ _ said (fun _ h => by cases h) (by kernel_rfl) (fun _ h => by cases h) paxRecords_row_tie rfl ⟨rfl, rfl⟩ (by kernel_rfl) rfl looks (by kernel_rfl)
#print axioms paxRecords_holds
end Go.Proofs.YtedcibjnnihhfaaDoor.paxRecords
