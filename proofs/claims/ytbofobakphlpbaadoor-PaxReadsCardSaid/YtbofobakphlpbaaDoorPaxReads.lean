/-
  The law PaxReads holds: pax.Read returns what the reference returns for any text. No conditions.
-/
import Derived.Test.YtbofobakphlpbaaDoorPrR
import Derived.Test.YtbofobakphlpbaaDoorPowL
namespace Go.Proofs.YtbofobakphlpbaaDoor.paxReads
open Go.ChangeShapes Go.WideShapes Go.ChangeAt Go.RowKit Go.Joins
open Go.ChangeMaps (open_string shut_string)

theorem readV_len (rc : ByteArray → Option (ByteArray × ByteArray × Nat)) (s : ByteArray) : ∀ (f a : Nat) (l : List (ByteArray × ByteArray)), (readV rc s f a l).1.length ≤ l.length + f
  | 0, _, l => Nat.le_refl _
  | f + 1, a, l => by
    unfold readV
    split
    · show l.length ≤ _; omega
    · split
      · exact Nat.zero_le _
      · rename_i k v n _
        split
        · exact Nat.zero_le _
        · have := readV_len rc s f (a + n) (l ++ [(k, v)])
          rw [List.length_append] at this
          simp only [List.length_singleton] at this
          omega
theorem star : "*" ++ "errors.errorString" = "*errors.errorString" := by decide
theorem rowErr (u : TypeId) (h : Tryd.prog.typeName? 3 u = some "*errors.errorString") : u = 238 :=
  typeName_ptr_named (nm := "errors.errorString") (by rw [star]; kernel_rfl) (by kernel_rfl) (by decide) u (by rw [star]; exact h)
theorem gSyn : Tryd.prog.globalNamed "strconv.ErrSyntax" = some 6 := by kernel_rfl
theorem gSynT : (Tryd.prog.globals[6]?).map (·.type) = some 26 := by kernel_rfl
theorem cellsErr : Tryd.prog.cellsOf 240 = 1 := by kernel_rfl
theorem cellsStr : Tryd.prog.cellsOf 9 = 1 := by kernel_rfl
theorem syn_of_laidB {rest : List (String × DataW Unit)} {W : World} (h : laidMet Tryd.prog (("strconv.ErrSyntax", Rows.laid_strconv_ErrSyntax) :: rest) W) : HasSyn W := by
  obtain ⟨a0, s0, hv0, -, -, -⟩ := laid_sentinel h gSyn gSynT Tryd.underlying26 rowErr Tryd.underlying238 Tryd.underlying240 rfl rfl Tryd.underlying9 cellsErr cellsStr
  have h0 := World.var?_cell gSyn hv0 0
  exact ⟨_, _, by simpa using h0⟩

set_option maxHeartbeats 1600000 in
set_option maxRecDepth 100000 in
theorem law (s : ByteArray) (w : World) (hg : HasHandle w) (hm : HasMax w) (ht : HasPow w) (hsy : HasSyn w) :
    Calls Tryd.prog 6 #[.string s] w fun e w' => e = .returned (.bool true) ∧ Ext w w' := by
  by_cases h : 600 < (s.size : Int)
  · go_enter Tryd.func6, Tryd.ntmps6
    go_wp2_with fail
    go_ret
    exact ⟨ret_bool (by simp), (by show Below _ _ _; repeat' (first | (with_reducible exact Below.refl _ _) | (with_reducible assumption) | (with_reducible refine belowDrewN ?_ _) | (with_reducible refine Below.alloc ?_ ?_ _) | (with_reducible refine Below.drew ?_) | (with_reducible refine Below.setCell ?_ ?_ _) | go_size))⟩
  · obtain ⟨rc, hrc⟩ : ∃ rc : ByteArray → Option (ByteArray × ByteArray × Nat), ∀ u, IsFirst u (rc u) := ⟨fun u => Classical.choose (first_is u), fun u => Classical.choose_spec (first_is u)⟩
    have C2 := Lib.hid (recordsRead_any rc hrc s (by omega) w ht)
    have C1 := Lib.hid (fun w hm ht hsy => paxRead_any rc hrc s (by omega) w hm ht hsy)
    have hlen := readV_len rc s (s.size + 1) 0 []
    have hl : (readV rc s (s.size + 1) 0 []).1.length ≤ 4000000000 := by
      simp only [List.length_nil] at hlen
      omega
    generalize readV rc s (s.size + 1) 0 [] = V at *
    obtain ⟨L, k, pl⟩ := V
    clear hlen hrc
    go_enter Tryd.func6, Tryd.ntmps6
    go_wp2_with fail
    refine C2.out.mono ?_; rintro e w2 ⟨v, rfl, hS, hx2⟩
    have HS := Lib.hid hS
    clear hS
    go_wp2_with fail
    have hx3 : Ext w2 (w2.alloc (.cells #[.int .i64 k, .int .i64 pl] 46)) := (Ext.refl _).alloc _
    have hx23 := hx2.trans hx3
    refine (C1.out _ (hm.ext hx23) (ht.ext hx23) (hsy.ext hx23)).mono ?_; rintro e w4 ⟨u, x, rfl, hU, hI, hx4⟩
    obtain ⟨r1, r2, _, _, r5⟩ := fault_box hx4
    have hy4 := hx23.trans hx4
    have C4 := Lib.hid (placed_same x k pl w4 (hg.ext hy4) hI)
    have C5 := Lib.hid (fun w5 (hE : Ext w4 w5) => samePairs_any w5 u v L hl (hU.ext hE) ((HS.out.ext (hx3.trans hx4)).ext hE))
    clear hU hI
    go_wp2_with fail
    refine C4.out.mono ?_; rintro e w5 ⟨rfl, hx5⟩
    go_wp2_with fail
    refine (C5.out _ hx5).mono ?_; rintro e w6 ⟨rfl, hx6⟩
    go_wp2_with fail
    go_ret
    exact ⟨rfl, (hy4.trans hx5).trans hx6⟩

set_option maxRecDepth 100000 in
theorem walk : Frame.WalksP Rows.paxReadsRow.laid 6 Tryd.f6 := by
  intro H enc W base args ds p hL hSh hval hA hsz
  have hg := Frame.handle_of_laidB rfl hL
  have hd := Frame.data_of_laidB rfl hL
  have ht := pow_of_laidB hd
  have hsy := syn_of_laidB (Go.laidMet.tail (Go.laidMet.tail (Go.laidMet.tail (Go.laidMet.tail hd))))
  have hm := HasMax.ofShaped hSh
  rw [Tryd.params6] at hA hval hsz
  obtain ⟨v0, d0, rfl, rfl, h0⟩ := trodAll_one hA
  obtain ⟨s, rfl, rfl, rfl, hs⟩ := open_string Tryd.underlying9 (hval 0 9 v0 rfl rfl) h0
  exact law s W hg hm ht hsy

/-! ### The row and the card -/
theorem plain : Frame.Plain Rows.paxReadsSpec Tryd.f6 := by
  refine ⟨rfl, fun H ds h => ?_⟩
  rw [Tryd.params6] at h
  match ds, h with
  | [_], _ => rfl
theorem read : ∀ t ∈ Tryd.f6.params.toList, Tryd.prog.readableRec t = true ∧ t < Tryd.prog.types.size := by
  rw [Tryd.params6]
  intro t ht
  simp at ht
  subst ht
  all_goals exact ⟨by kernel_rfl, of_decide_eq_true (by kernel_rfl)⟩
theorem reads (os : Os) {H : Type} (enc : TypeId × Value → H) : ∃ places, DataW.whole enc Tryd.prog ((Frame.bothWorld os Rows.paxReadsRow.laid).forCall (fun _ _ => 0) ⟨#[], #[.string ⟨#[]⟩], []⟩).memory Tryd.f6.params.toList Rows.paxReadsSpec.vars false (#[.string ⟨#[]⟩] : Array Value).toList 8 = some ([.lit (.string [])], [], places) :=
  ⟨[], by kernel_rfl⟩
set_option maxRecDepth 100000 in
theorem lifted (os : Os) (started : os.Started) (H : Type) (enc : TypeId × Value → H) (Fi : Stop.Interp) :
    ReturnsInHanded {} Tryd.checked os 6 .any ((OpenSpec.ofChange Rows.paxReadsSpec).preRow enc Tryd.prog Tryd.f6 Rows.paxReadsRow.domain false Rows.paxReadsRow.laid) (((OpenSpec.ofChange Rows.paxReadsSpec).at Fi).post enc Tryd.prog Tryd.f6 false true false false) := by
  obtain ⟨places, hx⟩ := reads os enc
  exact Frame.liftedP Tryd.func6 (by kernel_rfl) plain (by kernel_rfl) read walk os started H enc Fi
    (Frame.witness_zip (enc := enc) (C := Tryd.checked) false (Frame.bothWorld os Rows.paxReadsRow.laid) #[.string ⟨#[]⟩] rfl (by kernel_rfl) (by kernel_rfl) (by kernel_rfl)
      (OpenSpec.preRow_of_cond 8 hx (by kernel_rfl) (fun k hk => by cases hk) (by kernel_rfl) (Frame.bothWorld_met _ (by kernel_rfl) (by kernel_rfl) (by kernel_rfl))))
set_option maxRecDepth 100000 in
theorem said : Rows.PaxReadsSaid :=
  OpenClaim.holds_of_cond 6 Tryd.f6 rfl rfl rfl rfl rfl rfl rfl ⟨rfl, rfl, rfl, rfl, rfl⟩ rfl rfl rfl rfl rfl (by kernel_rfl) Tryd.func6 (by kernel_rfl)
    (of_decide_eq_true (by kernel_rfl)) (by unfold Func.isWrapper; first | (rw [if_pos (by decide +kernel)]; kernel_rfl) | (rw [if_neg (by decide +kernel)]; exact ⟨rfl, rfl⟩))
    (fun os started H enc _ F => by rw [OpenClaim.pre_eq_preRow]; exact lifted os started H enc F)
theorem looks (f : FuncId) (fn : Func) (hf : Tryd.pinned.checked.prog.funcNamed "revetment/revetmentlaw.PaxReads" = some f) (hfn : Tryd.pinned.checked.prog.funcs[f]? = some fn) :
    Rows.paxReadsCard.stood.looks = Tryd.pinned.checked.prog.looks [] ∧ ∀ (j : Nat) t, fn.params[j]? = some t → Tryd.pinned.checked.prog.wantsStandIn t = false := by
  obtain rfl : f = 6 := Option.some.inj ((show Tryd.prog.funcNamed "revetment/revetmentlaw.PaxReads" = some 6 by kernel_rfl).symm.trans hf) |>.symm
  obtain rfl : fn = Tryd.f6 := (Option.some.inj (Tryd.func6.symm.trans hfn)).symm
  refine ⟨by kernel_rfl, fun j t ht => ?_⟩
  rw [Tryd.params6] at ht
  have ht' := Array.mem_of_getElem? ht
  simp at ht'
  subst ht'
  · exact (show Tryd.prog.wantsStandIn 9 = false by kernel_rfl)
theorem paxReads_holds : Rows.PaxReadsCardSaid :=
  Claim7.holds_tied_plain_at .later [] _ _ _ _ said (fun _ h => by cases h) (by kernel_rfl) (fun _ h => by cases h) paxReads_row_tie rfl ⟨rfl, rfl⟩ (by kernel_rfl) rfl looks (by kernel_rfl)
#print axioms paxReads_holds
end Go.Proofs.YtbofobakphlpbaaDoor.paxReads
