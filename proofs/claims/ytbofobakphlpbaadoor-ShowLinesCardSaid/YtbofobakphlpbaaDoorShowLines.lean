/-
  The law ShowLines holds: show.Line returns what the reference returns for any member. No conditions.
-/
import Derived.Test.YtbofobakphlpbaaDoorShR
import Derived.Test.YtbofobakphlpbaaDoorTime
import Derived.Test.YtbofobakphlpbaaDoorPowL
import Derived.Lib.LaidPrint
import Derived.Lib.LaidU8
namespace Go.Proofs.YtbofobakphlpbaaDoor.showLines
open Go.ChangeShapes Go.WideShapes Go.ChangeAt Go.RowKit Go.Joins Go.Shelf

theorem tab_ext {g : Nat} {k : IntKind} {t : List Nat} {w w' : World} (h : Lib.TabSlice g k t w) (hE : Ext w w') : Lib.TabSlice g k t w' := by
  obtain ⟨R, o, c, h1, h2⟩ := h
  exact ⟨R, o, c, hE.cell h1, fun j hj => hE.cell (h2 j hj)⟩
theorem print_ext {a b c d : Nat} {T : Lib.PrintTabs} {w w' : World} (h : Lib.PrintTabsAt a b c d T w) (hE : Ext w w') : Lib.PrintTabsAt a b c d T w' := by
  obtain ⟨h1, h2, h3, h4, h5⟩ := h
  exact ⟨tab_ext h1 hE, tab_ext h2 hE, tab_ext h3 hE, tab_ext h4 hE, h5⟩
theorem u8_ext {a b : Nat} {w w' : World} (h : Lib.Utf8Tabs a b w) (hE : Ext w w') : Lib.Utf8Tabs a b w' :=
  ⟨fun c hc => hE.cell (h.1 c hc), fun i hi => ⟨hE.cell (h.2 i hi).1, hE.cell (h.2 i hi).2⟩⟩
def quoB (s : ByteArray) : ByteArray := strOfNums (Lib.quoteZ Lib.goPrintTabs s)
theorem quoC {w : World} (hT : Lib.PrintTabsAt 8 9 10 11 Lib.goPrintTabs w) (hU : Lib.Utf8Tabs 2 3 w) : QuoteC quoB w := fun s hs => by
  have h1 : (quoB s).size ≤ 10 * s.size + 2 := by unfold quoB; rw [strOfNums_size]; exact Lib.quoteZ_length_le _ s
  exact ⟨by omega, fun W hE => Tryd.strconv_Quote Lib.goPrintTabs s W (by omega) (print_ext hT hE) (u8_ext hU hE)⟩
theorem quoC_ext {Q : ByteArray → ByteArray} {w w' : World} (h : QuoteC Q w) (hE : Ext w w') : QuoteC Q w' := fun s hs => ⟨(h s hs).1, fun W hW => (h s hs).2 W (hE.trans hW)⟩

set_option maxHeartbeats 4000000 in
set_option maxRecDepth 100000 in
theorem law (e : Ent) (ok : e.Ok) (b1 : Fits64 e.ui) (b2 : Fits64 e.gi) (b3 : Fits64 e.sz) (b4 : Fits64 e.ma) (b5 : Fits64 e.mi) (Q : ByteArray → ByteArray) (w : World) (ht : HasPow w) (hQ : QuoteC Q w) :
    Calls Tryd.prog 5 #[.agg #[.string e.nm, .int .u8 e.kd, .int .i64 e.md, .int .i64 e.ui, .int .i64 e.gi, .int .i64 e.sz, .int .i64 e.ts, .int .i64 e.tn, .string e.lk, .string e.us, .string e.gr, .int .i64 e.ma, .int .i64 e.mi, .string e.dt, .slice e.pa e.pn e.pc]] w fun x w' => x = .returned (.bool true) ∧ Ext w w' := by
  have C1 := Lib.hid (fun w => large_any e ok w)
  have C2 := Lib.hid (fun w => timeRight_any e.ts e.tn w)
  have hy0 : Ext w (w.alloc (.cells #[.string e.nm, .int .u8 e.kd, .int .i64 e.md, .int .i64 e.ui, .int .i64 e.gi, .int .i64 e.sz, .int .i64 e.ts, .int .i64 e.tn, .string e.lk, .string e.us, .string e.gr, .int .i64 e.ma, .int .i64 e.mi, .string e.dt, .slice e.pa e.pn e.pc] 40)) := (Ext.refl w).alloc _
  cases hL : largeB e with
  | true =>
    rw [hL] at C1
    clear hL
    go_enter Tryd.func5, Tryd.ntmps5
    go_wp2_with fail
    refine wp_region_det (Stood _) (by kernel_rfl) (by kernel_rfl) (Stood.start _) ?_
    repeat (first
      | (refine det_skip (by rfl) ?_; simp only [Act.put, List.setIfInBounds_toArray, List.set_cons_zero, List.set_cons_succ])
      | (refine det_op (v := ?_) rfl (by rfl) (fun w' hS => ?_) ?_; rotate_left; (focus (obtain ⟨hcl, hxt⟩ := hS; go_wp2_with (first | ((with_reducible refine (C1.out _).mono ?_); rintro e w1 ⟨rfl, hx1⟩)); (first | refine ⟨?_, rfl, hcl, hxt⟩ | refine ⟨?_, rfl, Stood.of (hxt.trans (by assumption))⟩); (first | (simp only [List.getElem?_toArray, List.getElem?_cons_succ, List.getElem?_cons_zero]; rfl) | rfl))); simp only [Act.put, List.setIfInBounds_toArray, List.set_cons_zero, List.set_cons_succ]))
    refine det_end ?_
    intro w1 hS
    have hx1 := hS.2
    clear hS
    go_wp2_with fail
    go_ret
    exact ⟨rfl, hy0.trans hx1⟩
  | false =>
    have hLv := hL
    rw [hL] at C1
    clear hL
    cases hT : timeB e.ts e.tn with
    | false =>
      rw [hT] at C2
      clear hT hLv
      go_enter Tryd.func5, Tryd.ntmps5
      go_wp2_with fail
      refine wp_region_det (Stood _) (by kernel_rfl) (by kernel_rfl) (Stood.start _) ?_
      repeat (first
        | (refine det_skip (by rfl) ?_; simp only [Act.put, List.setIfInBounds_toArray, List.set_cons_zero, List.set_cons_succ])
        | (refine det_op (v := ?_) rfl (by rfl) (fun w' hS => ?_) ?_; rotate_left; (focus (obtain ⟨hcl, hxt⟩ := hS; go_wp2_with (first | ((with_reducible refine (C1.out _).mono ?_); rintro e w1 ⟨rfl, hx1⟩) | ((with_reducible refine (C2.out _).mono ?_); rintro e w1 ⟨rfl, hx1⟩)); (first | refine ⟨?_, rfl, hcl, hxt⟩ | refine ⟨?_, rfl, Stood.of (hxt.trans (by assumption))⟩); (first | (simp only [List.getElem?_toArray, List.getElem?_cons_succ, List.getElem?_cons_zero]; rfl) | rfl))); simp only [Act.put, List.setIfInBounds_toArray, List.set_cons_zero, List.set_cons_succ]))
      refine det_end ?_
      intro w1 hS
      have hx1 := hS.2
      clear hS
      go_wp2_with fail
      go_ret
      exact ⟨rfl, hy0.trans hx1⟩
    | true =>
      have hbd : e.Bd := by
        unfold largeB at hLv
        simp only [Bool.or_eq_false_iff, decide_eq_false_iff_not] at hLv
        unfold timeB at hT
        simp only [Bool.and_eq_true, decide_eq_true_eq] at hT
        have h700 := hLv.1.1.1
        exact ⟨b1, b2, b3, b4, b5, hT.1.1.1, hT.1.1.2, by omega, by omega, by omega, by omega, ok.kd0, ok.kd1⟩
      rw [hT] at C2
      have C3 := Lib.hid (fun w ht hQ => line_any e hbd Q w ht hQ)
      have C4 := Lib.hid (fun w ht hQ => refLine_any e hbd Q w ht hQ)
      generalize lineB e Q = LB at *
      clear hT hLv hbd
      go_enter Tryd.func5, Tryd.ntmps5
      go_wp2_with fail
      refine wp_region_det (Stood _) (by kernel_rfl) (by kernel_rfl) (Stood.start _) ?_
      repeat (first
        | (refine det_skip (by rfl) ?_; simp only [Act.put, List.setIfInBounds_toArray, List.set_cons_zero, List.set_cons_succ])
        | (refine det_op (v := ?_) rfl (by rfl) (fun w' hS => ?_) ?_; rotate_left; (focus (obtain ⟨hcl, hxt⟩ := hS; go_wp2_with (first | ((with_reducible refine (C1.out _).mono ?_); rintro e w1 ⟨rfl, hx1⟩) | ((with_reducible refine (C2.out _).mono ?_); rintro e w1 ⟨rfl, hx1⟩) | ((with_reducible refine (C3.out _ (ht.ext (hy0.trans hxt)) (quoC_ext hQ (hy0.trans hxt))).mono ?_); rintro e w1 ⟨rfl, hx1⟩) | ((with_reducible refine (C4.out _ (ht.ext (hy0.trans hxt)) (quoC_ext hQ (hy0.trans hxt))).mono ?_); rintro e w1 ⟨rfl, hx1⟩)); (first | refine ⟨?_, rfl, hcl, hxt⟩ | refine ⟨?_, rfl, Stood.of (hxt.trans (by assumption))⟩); (first | (simp only [List.getElem?_toArray, List.getElem?_cons_succ, List.getElem?_cons_zero]; rfl) | rfl))); simp only [Act.put, List.setIfInBounds_toArray, List.set_cons_zero, List.set_cons_succ]))
      refine det_end ?_
      intro w1 hS
      have hx1 := hS.2
      clear hS
      go_wp2_with fail
      go_ret
      exact ⟨ret_bool (by simp), hy0.trans hx1⟩

theorem fits_wf {n : Int} (h : (Lit.int .i64 n).wf = true) : Fits64 n := bounds_i64 h
set_option maxRecDepth 100000 in
theorem ent_bd {W : World} {e : Ent} (h : Rd W 40 e.cells) : Fits64 e.ui ∧ Fits64 e.gi ∧ Fits64 e.sz ∧ Fits64 e.ma ∧ Fits64 e.mi := by
  obtain ⟨_, hg⟩ := h.struct Tryd.underlying40
  have g3 := hg 3 _ rfl
  have g4 := hg 4 _ rfl
  have g5 := hg 5 _ rfl
  have g11 := hg 10 _ rfl
  have g12 := hg 11 _ rfl
  simp [Ent.cells, ecells_int] at g3 g4 g5 g11 g12
  obtain ⟨n3, e3, w3⟩ := g3.int Tryd.underlying3
  obtain ⟨n4, e4, w4⟩ := g4.int Tryd.underlying3
  obtain ⟨n5, e5, w5⟩ := g5.int Tryd.underlying3
  obtain ⟨n11, e11, w11⟩ := g11.int Tryd.underlying3
  obtain ⟨n12, e12, w12⟩ := g12.int Tryd.underlying3
  simp at e3 e4 e5 e11 e12
  subst e3 e4 e5 e11 e12
  exact ⟨fits_wf w3, fits_wf w4, fits_wf w5, fits_wf w11, fits_wf w12⟩
set_option maxRecDepth 100000 in
theorem arg_ent2 {H : Type} {enc : TypeId × Value → H} {W : World} {base : Nat} {v : Value} {d : DataW H} {p : List MemPlace} {ts : List TypeId} {ds : List (DataW H)} {j : Nat}
    (hv : Value.okWide Tryd.prog W .any base 40 v) (h : DataW.Trod enc Tryd.prog W 0 (fun _ => true) true 40 v d p)
    (hsz : (DataW.weightsEach Tryd.prog ts ds).all (· ≤ reachBytes) = true) (ht : ts[j]? = some 40) (hd : ds[j]? = some d) :
    ∃ e : Ent, v = .agg #[.string e.nm, .int .u8 e.kd, .int .i64 e.md, .int .i64 e.ui, .int .i64 e.gi, .int .i64 e.sz, .int .i64 e.ts, .int .i64 e.tn, .string e.lk, .string e.us, .string e.gr, .int .i64 e.ma, .int .i64 e.mi, .string e.dt, .slice e.pa e.pn e.pc] ∧ e.Ok ∧ Fits64 e.ui ∧ Fits64 e.gi ∧ Fits64 e.sz ∧ Fits64 e.ma ∧ Fits64 e.mi := by
  obtain ⟨cs, rfl, _⟩ := okWide_struct Tryd.underlying40 hv
  have hr := Rd.ofArg h hsz ht hd
  obtain ⟨e, A, S, hcs, hb, _⟩ := rd_ent hr
  rw [hcs] at hr
  refine ⟨e, ?_, hb, ent_bd hr⟩
  obtain ⟨l⟩ := cs
  simp [Value.cells, Ent.cells] at hcs
  rw [hcs]

theorem eqP16 : Rows.laid_strconv_isPrint16 = (Lib.sliceData .u16 Lib.goPrintTabs.p16 : DataW Unit) := by kernel_rfl
theorem eqN16 : Rows.laid_strconv_isNotPrint16 = (Lib.sliceData .u16 Lib.goPrintTabs.n16 : DataW Unit) := by kernel_rfl
theorem eqP32 : Rows.laid_strconv_isPrint32 = (Lib.sliceData .u32 Lib.goPrintTabs.p32 : DataW Unit) := by kernel_rfl
theorem eqN32 : Rows.laid_strconv_isNotPrint32 = (Lib.sliceData .u16 Lib.goPrintTabs.n32 : DataW Unit) := by kernel_rfl
theorem eqFirst : Rows.laid_unicode_utf8_first = (Lib.firstData : DataW Unit) := by kernel_rfl
theorem eqAcc : Rows.laid_unicode_utf8_acceptRanges = (Lib.acceptData : DataW Unit) := by kernel_rfl

set_option maxRecDepth 100000 in
theorem walk : Frame.WalksP Rows.showLinesRow.laid 5 Tryd.f5 := by
  intro H enc W base args ds p hL hSh hval hA hsz
  have hL2 : laidMet Tryd.prog [("math/bits.deBruijn32tab", Rows.laid_math_bits_deBruijn32tab), ("math/bits.deBruijn64tab", Rows.laid_math_bits_deBruijn64tab), ("internal/strconv.uint64pow10", Rows.laid_internal_strconv_uint64pow10), ("unicode/utf8.acceptRanges", Rows.laid_unicode_utf8_acceptRanges), ("strconv.isGraphic", Rows.laid_strconv_isGraphic), ("strconv.isNotPrint16", Rows.laid_strconv_isNotPrint16), ("strconv.isNotPrint32", Rows.laid_strconv_isNotPrint32), ("strconv.isPrint16", Rows.laid_strconv_isPrint16), ("strconv.isPrint32", Rows.laid_strconv_isPrint32), ("unicode.CaseRanges", Rows.laid_unicode_CaseRanges), ("unicode/utf8.first", Rows.laid_unicode_utf8_first)] W := hL
  have ht := pow_of_laidB hL2
  have r3 := Lib.laidMet.reads hL2 (.tail _ (.tail _ (.tail _ (.head _))))
  have r5 := Lib.laidMet.reads hL2 (.tail _ (.tail _ (.tail _ (.tail _ (.tail _ (.head _))))))
  have r6 := Lib.laidMet.reads hL2 (.tail _ (.tail _ (.tail _ (.tail _ (.tail _ (.tail _ (.head _)))))))
  have r7 := Lib.laidMet.reads hL2 (.tail _ (.tail _ (.tail _ (.tail _ (.tail _ (.tail _ (.tail _ (.head _))))))))
  have r8 := Lib.laidMet.reads hL2 (.tail _ (.tail _ (.tail _ (.tail _ (.tail _ (.tail _ (.tail _ (.tail _ (.head _)))))))))
  have r10 := Lib.laidMet.reads hL2 (.tail _ (.tail _ (.tail _ (.tail _ (.tail _ (.tail _ (.tail _ (.tail _ (.tail _ (.tail _ (.head _)))))))))))
  rw [eqAcc] at r3
  rw [eqN16] at r5
  rw [eqN32] at r6
  rw [eqP16] at r7
  rw [eqP32] at r8
  rw [eqFirst] at r10
  have hU : Lib.Utf8Tabs 2 3 W :=
    Go.Proofs.utf8Tabs_of_reads (ρ := Tryd.lays177_ren) { Tryd.lays177 with } ⟨by kernel_rfl, by kernel_rfl, by kernel_rfl, by kernel_rfl, by kernel_rfl, by kernel_rfl, by kernel_rfl⟩ r10 r3
  have hT : Lib.PrintTabsAt 8 9 10 11 Lib.goPrintTabs W :=
    Go.Proofs.printTabs_of_reads (ρ := Tryd.lays177_ren) { Tryd.lays177 with } ⟨by kernel_rfl, by kernel_rfl, by kernel_rfl, by kernel_rfl, by kernel_rfl, by kernel_rfl, by kernel_rfl, by kernel_rfl, by kernel_rfl, by kernel_rfl⟩ r7 r5 r8 r6
  clear r3 r5 r6 r7 r8 r10 hL2
  rw [Tryd.params5] at hA hval hsz
  obtain ⟨v0, d0, rfl, rfl, h0⟩ := trodAll_one hA
  obtain ⟨e, rfl, ok, b1, b2, b3, b4, b5⟩ := arg_ent2 (hval 0 40 v0 rfl rfl) h0 hsz (j := 0) rfl rfl
  exact law e ok b1 b2 b3 b4 b5 quoB W ht (quoC hT hU)

/-! ### The row and the card -/
theorem plain : Frame.Plain Rows.showLinesSpec Tryd.f5 := by
  refine ⟨rfl, fun H ds h => ?_⟩
  rw [Tryd.params5] at h
  match ds, h with
  | [_], _ => rfl
theorem read : ∀ t ∈ Tryd.f5.params.toList, Tryd.prog.readableRec t = true ∧ t < Tryd.prog.types.size := by
  rw [Tryd.params5]
  intro t ht
  simp at ht
  subst ht
  all_goals exact ⟨by kernel_rfl, of_decide_eq_true (by kernel_rfl)⟩
theorem reads (os : Os) {H : Type} (enc : TypeId × Value → H) : ∃ places, DataW.whole enc Tryd.prog ((Frame.dataWorld os Rows.showLinesRow.laid).forCall (fun _ _ => 0) ⟨#[], #[.agg #[.string ⟨#[]⟩, .int .u8 0, .int .i64 0, .int .i64 0, .int .i64 0, .int .i64 0, .int .i64 0, .int .i64 0, .string ⟨#[]⟩, .string ⟨#[]⟩, .string ⟨#[]⟩, .int .i64 0, .int .i64 0, .string ⟨#[]⟩, .slice none 0 0]], []⟩).memory Tryd.f5.params.toList Rows.showLinesSpec.vars false (#[.agg #[.string ⟨#[]⟩, .int .u8 0, .int .i64 0, .int .i64 0, .int .i64 0, .int .i64 0, .int .i64 0, .int .i64 0, .string ⟨#[]⟩, .string ⟨#[]⟩, .string ⟨#[]⟩, .int .i64 0, .int .i64 0, .string ⟨#[]⟩, .slice none 0 0]] : Array Value).toList 8 = some ([.agg [.lit (.string []), .lit (.int .u8 0), .lit (.int .i64 0), .lit (.int .i64 0), .lit (.int .i64 0), .lit (.int .i64 0), .agg [.lit (.int .i64 0), .lit (.int .i64 0)], .lit (.string []), .lit (.string []), .lit (.string []), .lit (.int .i64 0), .lit (.int .i64 0), .lit (.string []), .nil]], [], places) :=
  ⟨[], by kernel_rfl⟩
set_option maxRecDepth 100000 in
theorem lifted (os : Os) (started : os.Started) (H : Type) (enc : TypeId × Value → H) (Fi : Stop.Interp) :
    ReturnsInHanded {} Tryd.checked os 5 .any ((OpenSpec.ofChange Rows.showLinesSpec).preRow enc Tryd.prog Tryd.f5 Rows.showLinesRow.domain false Rows.showLinesRow.laid) (((OpenSpec.ofChange Rows.showLinesSpec).at Fi).post enc Tryd.prog Tryd.f5 false true false false) := by
  obtain ⟨places, hx⟩ := reads os enc
  exact Frame.liftedP Tryd.func5 (by kernel_rfl) plain (by kernel_rfl) read walk os started H enc Fi
    (Frame.witness_zip (enc := enc) (C := Tryd.checked) false (Frame.dataWorld os Rows.showLinesRow.laid) #[.agg #[.string ⟨#[]⟩, .int .u8 0, .int .i64 0, .int .i64 0, .int .i64 0, .int .i64 0, .int .i64 0, .int .i64 0, .string ⟨#[]⟩, .string ⟨#[]⟩, .string ⟨#[]⟩, .int .i64 0, .int .i64 0, .string ⟨#[]⟩, .slice none 0 0]] rfl (by kernel_rfl) (by kernel_rfl) (by kernel_rfl)
      (OpenSpec.preRow_of_cond 8 hx (by kernel_rfl) (fun k hk => by cases hk) (by kernel_rfl) (Frame.dataWorld_met (by kernel_rfl) _ (by kernel_rfl) (by kernel_rfl))))
set_option maxRecDepth 100000 in
theorem said : Rows.ShowLinesSaid :=
  OpenClaim.holds_of_cond 5 Tryd.f5 rfl rfl rfl rfl rfl rfl rfl ⟨rfl, rfl, rfl, rfl, rfl⟩ rfl rfl rfl rfl rfl (by kernel_rfl) Tryd.func5 (by kernel_rfl)
    (of_decide_eq_true (by kernel_rfl)) (by unfold Func.isWrapper; first | (rw [if_pos (by decide +kernel)]; kernel_rfl) | (rw [if_neg (by decide +kernel)]; exact ⟨rfl, rfl⟩))
    (fun os started H enc _ F => by rw [OpenClaim.pre_eq_preRow]; exact lifted os started H enc F)
theorem looks (f : FuncId) (fn : Func) (hf : Tryd.pinned.checked.prog.funcNamed "revetment/revetmentlaw.ShowLines" = some f) (hfn : Tryd.pinned.checked.prog.funcs[f]? = some fn) :
    Rows.showLinesCard.stood.looks = Tryd.pinned.checked.prog.looks [] ∧ ∀ (j : Nat) t, fn.params[j]? = some t → Tryd.pinned.checked.prog.wantsStandIn t = false := by
  obtain rfl : f = 5 := Option.some.inj ((show Tryd.prog.funcNamed "revetment/revetmentlaw.ShowLines" = some 5 by kernel_rfl).symm.trans hf) |>.symm
  obtain rfl : fn = Tryd.f5 := (Option.some.inj (Tryd.func5.symm.trans hfn)).symm
  refine ⟨by kernel_rfl, fun j t ht => ?_⟩
  rw [Tryd.params5] at ht
  have ht' := Array.mem_of_getElem? ht
  simp at ht'
  subst ht'
  · exact (show Tryd.prog.wantsStandIn 40 = false by kernel_rfl)
theorem showLines_holds : Rows.ShowLinesCardSaid :=
  Claim7.holds_tied_plain_at .later [] _ _ _ _ said (fun _ h => by cases h) (by kernel_rfl) (fun _ h => by cases h) showLines_row_tie rfl ⟨rfl, rfl⟩ (by kernel_rfl) rfl looks (by kernel_rfl)
#print axioms showLines_holds
end Go.Proofs.YtbofobakphlpbaaDoor.showLines
