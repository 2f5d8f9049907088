/-
  The law StampTexts holds: stamp.Text returns what the reference returns for any time. No conditions.
-/
import Derived.Test.YtedcibjnnihhfaaDoorTextRef
import Derived.Test.YtedcibjnnihhfaaDoorPowL
namespace Go.Proofs.YtedcibjnnihhfaaDoor.stampTexts
open Go.ChangeShapes Go.WideShapes Go.ChangeAt Go.RowKit Go.Joins

set_option maxRecDepth 100000 in
theorem law (ts tn : Int) (w : World) (hg : HasHandle w) (ht : HasPow w) : Calls Tryd.prog 12 #[.agg #[.int .i64 ts, .int .i64 tn]] w fun e w' => e = .returned (.bool true) ∧ Ext w w' := by
  have C1 := Lib.hid (fun w ht => refText_any ts tn w ht)
  have C2 := Lib.hid (fun w ht => text_any ts tn w ht)
  have hx0 : Ext w (w.alloc (.cells #[.int .i64 ts, .int .i64 tn] 72)) := (Ext.refl w).alloc _
  have hcells : ∀ W : World, Ext (w.alloc (.cells #[.int .i64 ts, .int .i64 tn] 72)) W → W.cell? ⟨w.heap.size, 0, none⟩ = some (.int .i64 ts) ∧ W.cell? ⟨w.heap.size, 1, none⟩ = some (.int .i64 tn) ∧ w.heap.size < W.heap.size := fun W hW => by
    have h1 := hW.cell (show (w.alloc (.cells #[.int .i64 ts, .int .i64 tn] 72)).cell? ⟨w.heap.size, 0, none⟩ = some (.int .i64 ts) by simp)
    have h2 := hW.cell (show (w.alloc (.cells #[.int .i64 ts, .int .i64 tn] 72)).cell? ⟨w.heap.size, 1, none⟩ = some (.int .i64 tn) by simp)
    exact ⟨h1, h2, World.block_lt_of_cell? W _ h1⟩
  have Hcells := Lib.hid hcells
  clear hcells
  generalize textV ts tn = a at *
  generalize textE ts tn = b at *
  go_enter Tryd.func12, Tryd.ntmps12
  go_wp2_with fail
  refine (C1.out _ (ht.ext hx0)).mono ?_; rintro e w1 ⟨rfl, hx1⟩
  obtain ⟨g1, g2, g3⟩ := Hcells.out w1 hx1
  have hy1 := hx0.trans hx1
  go_wp2_with fail
  refine (C2.out _ (ht.ext hy1)).mono ?_; rintro e w2 ⟨rfl, hx2⟩
  have hy2 := hy1.trans hx2
  go_wp2_with fail
  refine (bare_any _ _ _ (hg.ext hy2)).mono ?_; rintro e w3 ⟨rfl, hx3⟩
  go_wp2_with fail
  go_ret
  exact ⟨ret_bool (by simp), hy2.trans hx3⟩

set_option maxRecDepth 100000 in
theorem walk : Frame.WalksP Rows.stampTextsRow.laid 12 Tryd.f12 := by
  intro H enc W base args ds p hL hSh hval hA hsz
  have hg := Frame.handle_of_laidB rfl hL
  have ht := pow_of_laidB (Frame.data_of_laidB rfl hL)
  rw [Tryd.params12] at hA hval hsz
  obtain ⟨v0, d0, rfl, rfl, h0⟩ := trodAll_one hA
  obtain ⟨v1, v2, y1, y2, n, rfl, _, _, ha, hb⟩ := open_agg2 Tryd.underlying72 (by kernel_rfl) (by kernel_rfl) (hval 0 72 v0 rfl rfl) h0
  obtain ⟨na, ea, _⟩ := DataW.trod_int Tryd.underlying3 ha
  obtain ⟨nb, eb, _⟩ := DataW.trod_int Tryd.underlying3 hb
  cases ea
  cases eb
  exact law na nb W hg ht

/-! ### The row and the card -/
theorem plain : Frame.Plain Rows.stampTextsSpec Tryd.f12 := by
  refine ⟨rfl, fun H ds h => ?_⟩
  rw [Tryd.params12] at h
  match ds, h with
  | [_], _ => rfl
theorem read : ∀ t ∈ Tryd.f12.params.toList, Tryd.prog.readableRec t = true ∧ t < Tryd.prog.types.size := by
  rw [Tryd.params12]
  intro t ht
  simp at ht
  subst ht
  all_goals exact ⟨by kernel_rfl, of_decide_eq_true (by kernel_rfl)⟩
theorem reads (os : Os) {H : Type} (enc : TypeId × Value → H) : ∃ places, DataW.whole enc Tryd.prog ((Frame.bothWorld os Rows.stampTextsRow.laid).forCall (fun _ _ => 0) ⟨#[], #[.agg #[.int .i64 0, .int .i64 0]], []⟩).memory Tryd.f12.params.toList Rows.stampTextsSpec.vars false (#[.agg #[.int .i64 0, .int .i64 0]] : Array Value).toList 8 = some ([.agg [.lit (.int .i64 0), .lit (.int .i64 0)]], [], places) :=
  ⟨[], by kernel_rfl⟩
set_option maxRecDepth 100000 in
theorem lifted (os : Os) (started : os.Started) (H : Type) (enc : TypeId × Value → H) (Fi : Stop.Interp) :
    ReturnsInHanded {} Tryd.checked os 12 .any ((OpenSpec.ofChange Rows.stampTextsSpec).preRow enc Tryd.prog Tryd.f12 Rows.stampTextsRow.domain false Rows.stampTextsRow.laid) (((OpenSpec.ofChange Rows.stampTextsSpec).at Fi).post enc Tryd.prog Tryd.f12 false true false false) := by
  obtain ⟨places, hx⟩ := reads os enc
  exact Frame.liftedP Tryd.func12 (by kernel_rfl) plain (by kernel_rfl) read walk os started H enc Fi
    (Frame.witness_zip (enc := enc) (C := Tryd.checked) false (Frame.bothWorld os Rows.stampTextsRow.laid) #[.agg #[.int .i64 0, .int .i64 0]] rfl (by kernel_rfl) (by kernel_rfl) (by kernel_rfl)
      (OpenSpec.preRow_of_cond 8 hx (by kernel_rfl) (fun k hk => by cases hk) (by kernel_rfl) (Frame.bothWorld_met _ (by kernel_rfl) (by kernel_rfl) (by kernel_rfl))))
set_option maxRecDepth 100000 in
theorem said : Rows.StampTextsSaid :=
  OpenClaim.holds_of_cond 12 Tryd.f12 rfl rfl rfl rfl rfl rfl rfl ⟨rfl, rfl, rfl, rfl, rfl⟩ rfl rfl rfl rfl rfl (by kernel_rfl) Tryd.func12 (by kernel_rfl)
    (of_decide_eq_true (by kernel_rfl)) (by unfold Func.isWrapper; first | (rw [if_pos (by decide +kernel)]; kernel_rfl) | (rw [if_neg (by decide +kernel)]; exact ⟨rfl, rfl⟩))
    (fun os started H enc _ F => by rw [OpenClaim.pre_eq_preRow]; exact lifted os started H enc F)
theorem looks (f : FuncId) (fn : Func) (hf : Tryd.pinned.checked.prog.funcNamed "revetment/revetmentlaw.StampTexts" = some f) (hfn : Tryd.pinned.checked.prog.funcs[f]? = some fn) :
    Rows.stampTextsCard.stood.looks = Tryd.pinned.checked.prog.looks [] ∧ ∀ (j : Nat) t, fn.params[j]? = some t → Tryd.pinned.checked.prog.wantsStandIn t = false := by
  obtain rfl : f = 12 := Option.some.inj ((show Tryd.prog.funcNamed "revetment/revetmentlaw.StampTexts" = some 12 by kernel_rfl).symm.trans hf) |>.symm
  obtain rfl : fn = Tryd.f12 := (Option.some.inj (Tryd.func12.symm.trans hfn)).symm
  refine ⟨by kernel_rfl, fun j t ht => ?_⟩
  rw [Tryd.params12] at ht
  have ht' := Array.mem_of_getElem? ht
  simp at ht'
  subst ht'
  · exact (show Tryd.prog.wantsStandIn 72 = false by kernel_rfl)
theorem stampTexts_holds : Rows.StampTextsCardSaid :=
  Claim7.holds_tied_plain_at .later [] _ _ _ _ said (fun _ h => by cases h) (by kernel_rfl) (fun _ h => by cases h) stampTexts_row_tie rfl ⟨rfl, rfl⟩ (by kernel_rfl) rfl looks (by kernel_rfl)
#print axioms stampTexts_holds
end Go.Proofs.YtedcibjnnihhfaaDoor.stampTexts
