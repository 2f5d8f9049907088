/-
  The law PathCompares holds: path.Compare orders any two names as the reference does. No conditions.
-/
import Derived.Test.YtioceakpmnhohaaDoorCmp
import Derived.Test.YtioceakpmnhohaaDoorFrameP
namespace Go.Proofs.YtioceakpmnhohaaDoor.pathCompares
open Go.ChangeShapes Go.WideShapes Go.ChangeAt Go.RowKit
open Go.ChangeMaps (open_string shut_string)

set_option maxRecDepth 100000 in
theorem compare_any (a b : ByteArray) (ha : a.size ≤ 1000000) (hb : b.size ≤ 1000000) (w : World) (hm : HasMax w) : Calls Tryd.prog 23 #[.string a, .string b] w fun e w' => e = .returned (.int .i64 (lcmp (partsB a) (partsB b))) ∧ Ext w w' := by
  go_enter Tryd.func23, Tryd.ntmps23
  go_wp2_with fail
  refine (parts_any a (by omega) _ hm).mono ?_; rintro e w1 ⟨v1, rfl, h1, hx1⟩
  go_wp2_with fail
  refine (parts_any b (by omega) _ (hm.ext hx1)).mono ?_; rintro e w2 ⟨v2, rfl, h2, hx2⟩
  go_wp2_with fail
  refine (slicesCompare_any _ _ _ _ _ (h1.ext hx2) h2).mono ?_; rintro e w3 ⟨rfl, hx3⟩
  go_wp2_with fail
  go_ret
  exact ⟨rfl, (hx1.trans hx2).trans hx3⟩

/-- Ahead? -/
def aheadB (l m : List ByteArray) : Bool := decide (lcmp l m < 0)
theorem scmp_ne {x y : ByteArray} (h : (x.toList == y.toList) = false) : scmp x y ≠ 0 := by
  unfold scmp
  rw [h]
  split <;> simp
theorem scmp_same {x y : ByteArray} (h : (x.toList == y.toList) = true) : scmp x y = 0 := by
  unfold scmp
  have e : x.toList = y.toList := by simpa using h
  rw [e, less_irrefl]; simp
theorem scmp_less {x y : ByteArray} (h : (x.toList == y.toList) = false) : decide (scmp x y < 0) = Op.bytesLess x.toList y.toList := by
  unfold scmp
  rw [h]
  cases Op.bytesLess x.toList y.toList <;> simp

set_option maxHeartbeats 1600000 in
set_option maxRecDepth 100000 in
theorem below_any (a b : ByteArray) (ha : a.size ≤ 1000000) (hb : b.size ≤ 1000000) (w : World) (hm : HasMax w) : Calls Tryd.prog 21 #[.string a, .string b] w fun e w' => e = .returned (.bool (aheadB (partsB a) (partsB b))) ∧ Ext w w' := by
  go_enter Tryd.func21, Tryd.ntmps21
  go_wp2_with fail
  refine (refParts_any a ha _ hm).mono ?_; rintro e w1 ⟨u, rfl, h1, hx1⟩
  go_wp2_with fail
  refine (refParts_any b hb _ (hm.ext hx1)).mono ?_; rintro e w2 ⟨v, rfl, h2, hx2⟩
  obtain ⟨l, hl⟩ : ∃ l, partsB a = l := ⟨_, rfl⟩
  obtain ⟨m, hm'⟩ : ∃ m, partsB b = m := ⟨_, rfl⟩
  rw [hl] at h1
  rw [hm'] at h2
  have Ha := Lib.hid hl
  have Hb := Lib.hid hm'
  clear hl hm'
  obtain ⟨ou, cap', hu, hll, hcu⟩ := (h1.ext hx2).open
  obtain ⟨oa, cap'', hv, _, hcv⟩ := h2.open
  subst hv
  subst hu
  unfold maxLen at hll
  have Hc := Lib.hid hcu
  have Hcv := Lib.hid hcv
  clear hcu hcv h1 h2
  go_wp2_with fail
  go_loopw [7] (fun i wr => ∃ k : Nat, k ≤ l.length ∧ k ≤ m.length ∧ i = .int .i64 (k : Int) ∧ lcmp (l.drop k) (m.drop k) = lcmp l m ∧ Ext w2 wr) (fun i _ => l.length - (intOf i).toNat)
  case atStart => exact ⟨0, by omega, by omega, rfl, rfl, Ext.refl _⟩
  case round =>
    obtain ⟨k, hk, hkm, rfl, hL, hE⟩ := hrel
    have HL := Lib.hid hL
    clear hL
    by_cases hlt : k < l.length
    · by_cases hlt2 : k < m.length
      · obtain ⟨b1, off, e0, g1'⟩ := Hc.out k hlt
        obtain ⟨b', off', e1, g2'⟩ := Hcv.out k hlt2
        subst e0 e1
        have g1 := hE.cell g1'
        have g2 := hE.cell g2'
        clear g1' g2'
        have lb : b1 < wr.heap.size := World.block_lt_of_cell? wr _ g1
        have lb' : b' < wr.heap.size := World.block_lt_of_cell? wr _ g2
        have hS := Lib.hid (fun h => lcmp_step hlt hlt2 h)
        have hP := Lib.hid (fun h => lcmp_part hlt hlt2 h)
        generalize l[k] = x at *
        generalize m[k] = y at *
        cases hq : (x.toList == y.toList) with
        | true =>
          have hq' : (!x.toList == y.toList) = false := by simpa using hq
          have Hq : Hid (lcmp (l.drop (k + 1)) (m.drop (k + 1)) = lcmp l m) := Lib.hid (by rw [← HL.out, hS.out (scmp_same hq)])
          go_wp2_with fail
          refine wp_region_det (Stood _) (by kernel_rfl) (by kernel_rfl) (Stood.start _) ?_
          repeat (first
            | (refine det_skip (by rfl) ?_; simp only [Act.put, List.setIfInBounds_toArray, List.set_cons_zero, List.set_cons_succ])
            | (refine det_op (v := ?_) rfl (by rfl) (fun w' hS => ?_) ?_; rotate_left; (focus (obtain ⟨hcl, hxt⟩ := hS; go_wp2_with (fail); (first | refine ⟨?_, rfl, hcl, hxt⟩ | refine ⟨?_, rfl, Stood.of (hxt.trans (by assumption))⟩); rfl)); simp only [Act.put, List.setIfInBounds_toArray, List.set_cons_zero, List.set_cons_succ]))
          refine det_end ?_
          intro w3 hS
          have hx3 := hS.2
          clear hS
          go_wp2_with fail
          go_roundw
          case rel => exact ⟨k + 1, hlt, hlt2, by go_num, Hq.out, hE.trans hx3⟩
          case measure => simp [intOf]; omega
        | false =>
          have hq' : (!x.toList == y.toList) = true := by simpa using hq
          have Hq : Hid (aheadB l m = Op.bytesLess x.toList y.toList) := Lib.hid (by unfold aheadB; rw [← HL.out, hP.out (scmp_ne hq), scmp_less hq])
          go_wp2_with fail
          refine wp_region_det (Stood _) (by kernel_rfl) (by kernel_rfl) (Stood.start _) ?_
          repeat (first
            | (refine det_skip (by rfl) ?_; simp only [Act.put, List.setIfInBounds_toArray, List.set_cons_zero, List.set_cons_succ])
            | (refine det_op (v := ?_) rfl (by rfl) (fun w' hS => ?_) ?_; rotate_left; (focus (obtain ⟨hcl, hxt⟩ := hS; go_wp2_with (fail); (first | refine ⟨?_, rfl, hcl, hxt⟩ | refine ⟨?_, rfl, Stood.of (hxt.trans (by assumption))⟩); rfl)); simp only [Act.put, List.setIfInBounds_toArray, List.set_cons_zero, List.set_cons_succ]))
          refine det_end ?_
          intro w3 hS
          have hx3 := hS.2
          have hcl3 := hS.1
          clear hS
          have lb3 : b1 < w3.heap.size := Nat.lt_of_lt_of_le lb hx3.size
          have lb3' : b' < w3.heap.size := Nat.lt_of_lt_of_le lb' hx3.size
          have g13 := hx3.cell g1
          have g23 := hx3.cell g2
          clear g1 g2 hcl3
          go_wp2_with fail
          refine wp_region_det (Stood _) (by kernel_rfl) (by kernel_rfl) (Stood.start _) ?_
          repeat (first
            | (refine det_skip (by rfl) ?_; simp only [Act.put, List.setIfInBounds_toArray, List.set_cons_zero, List.set_cons_succ])
            | (refine det_op (v := ?_) rfl (by rfl) (fun w' hS => ?_) ?_; rotate_left; (focus (obtain ⟨hcl, hxt⟩ := hS; go_wp2_with (fail); (first | refine ⟨?_, rfl, hcl, hxt⟩ | refine ⟨?_, rfl, Stood.of (hxt.trans (by assumption))⟩); rfl)); simp only [Act.put, List.setIfInBounds_toArray, List.set_cons_zero, List.set_cons_succ]))
          refine det_end ?_
          intro w4 hS
          have hx4 := hS.2
          clear hS
          go_wp2_with fail
          go_ret
          exact ⟨ret_bool (by rw [Ha.out, Hb.out, Hq.out]), (hx1.trans hx2).trans ((hE.trans hx3).trans hx4)⟩
      · have hge : m.length ≤ k := by omega
        have Hq : Hid (aheadB l m = decide (l.length < m.length)) := Lib.hid (by unfold aheadB; rw [← HL.out, lcmp_more hlt hge]; simp; omega)
        go_wp2_with fail
        go_ret
        exact ⟨ret_bool (by rw [Ha.out, Hb.out, Hq.out]), (hx1.trans hx2).trans hE⟩
    · obtain rfl : k = l.length := by omega
      have Hq : Hid (aheadB l m = decide (l.length < m.length)) := Lib.hid (by
        unfold aheadB; rw [← HL.out, lcmp_end (Nat.le_refl _)]
        by_cases h : l.length < m.length <;> simp [h])
      go_wp2_with fail
      go_ret
      exact ⟨ret_bool (by rw [Ha.out, Hb.out, Hq.out]), (hx1.trans hx2).trans hE⟩

theorem sign_any (n : Int) (w : World) : Calls Tryd.prog 22 #[.int .i64 n] w fun e w' => e = .returned (.int .i64 (if n < 0 then -1 else if 0 < n then 1 else 0)) ∧ w' = w := by
  rcases (show n < 0 ∨ (¬ n < 0 ∧ 0 < n) ∨ (¬ n < 0 ∧ ¬ 0 < n) by omega) with h | ⟨h, k⟩ | ⟨h, k⟩
  · rw [if_pos h]
    go_enter Tryd.func22, Tryd.ntmps22
    go_wp2_with fail
    go_ret
    exact ⟨rfl, rfl⟩
  · rw [if_neg h, if_pos k]
    go_enter Tryd.func22, Tryd.ntmps22
    go_wp2_with fail
    go_ret
    exact ⟨rfl, rfl⟩
  · rw [if_neg h, if_neg k]
    go_enter Tryd.func22, Tryd.ntmps22
    go_wp2_with fail
    go_ret
    exact ⟨rfl, rfl⟩

set_option maxRecDepth 100000 in
theorem law (a b : ByteArray) (w : World) (hm : HasMax w) (ha : a.size ≤ 140737488351232) (hb : b.size ≤ 140737488351232) : Calls Tryd.prog 8 #[.string a, .string b] w fun e w' => e = .returned (.bool true) ∧ Ext w w' := by
  by_cases h : 400 < (a.size : Int) + (b.size : Int)
  · go_enter Tryd.func8, Tryd.ntmps8
    go_wp2_with fail
    go_ret
    exact ⟨ret_bool (by simp), (by show Below _ _ _; repeat' (first | (with_reducible exact Below.refl _ _) | (with_reducible assumption) | (with_reducible refine belowDrewN ?_ _) | (with_reducible refine Below.alloc ?_ ?_ _) | (with_reducible refine Below.drew ?_) | (with_reducible refine Below.setCell ?_ ?_ _) | go_size))⟩
  · have ha' : a.size ≤ 1000000 := by omega
    have hb' : b.size ≤ 1000000 := by omega
    have c1 := fun w hm => below_any a b ha' hb' w hm
    have c2 := fun w hm => below_any b a hb' ha' w hm
    have c3 := fun w hm => compare_any a b ha' hb' w hm
    have c4 := fun w => sign_any (lcmp (partsB a) (partsB b)) w
    have hsw := lcmp_swap (partsB a) (partsB b)
    unfold aheadB at c1 c2
    rw [hsw] at c2
    clear hsw
    rcases lcmp_rng (partsB a) (partsB b) with e | e | e
    all_goals
      rw [e] at c1 c2 c3 c4
      simp at c1 c2 c3 c4
      have C1 := Lib.hid c1
      have C2 := Lib.hid c2
      have C3 := Lib.hid c3
      have C4 := Lib.hid c4
      clear c1 c2 c3 c4 e
      go_enter Tryd.func8, Tryd.ntmps8
      go_wp2_with fail
      refine (C1.out _ hm).mono ?_; rintro e w1 ⟨rfl, hx1⟩
      go_wp2_with fail
      refine (C2.out _ (hm.ext hx1)).mono ?_; rintro e w2 ⟨rfl, hx2⟩
      go_wp2_with fail
      refine (C3.out _ (hm.ext (hx1.trans hx2))).mono ?_; rintro e w3 ⟨rfl, hx3⟩
      go_wp2_with fail
      refine (C4.out _).mono ?_; rintro e w4 ⟨rfl, rfl⟩
      go_wp2_with fail
      go_ret
      exact ⟨ret_bool (by simp), (hx1.trans hx2).trans hx3⟩

set_option maxRecDepth 100000 in
theorem walk : Frame.WalksP Rows.pathComparesRow.laid 8 Tryd.f8 := by
  intro H enc W base args ds p hL hSh hval hA hsz
  have hm := HasMax.ofShaped hSh
  rw [Tryd.params8] at hA hval hsz
  obtain ⟨v0, v1, d0, d1, p0, p1, rfl, rfl, rfl, h0, h1⟩ := trodAll_two hA
  obtain ⟨s, rfl, rfl, rfl, hs⟩ := open_string Tryd.underlying9 (hval 0 9 v0 rfl rfl) h0
  obtain ⟨t, rfl, rfl, rfl, ht⟩ := open_string Tryd.underlying9 (hval 1 9 v1 rfl rfl) h1
  have z0 := sized_string hsz (j := 0) (t := 9) rfl rfl
  have z1 := sized_string hsz (j := 1) (t := 9) rfl rfl
  exact law s t W hm (by simpa [reachBytes] using z0) (by simpa [reachBytes] using z1)

/-! ### The row and the card -/
theorem plain : Frame.Plain Rows.pathComparesSpec Tryd.f8 := by
  refine ⟨rfl, fun H ds h => ?_⟩
  rw [Tryd.params8] at h
  match ds, h with
  | [_, _], _ => rfl
theorem read : ∀ t ∈ Tryd.f8.params.toList, Tryd.prog.readableRec t = true ∧ t < Tryd.prog.types.size := by
  rw [Tryd.params8]
  intro t ht
  simp at ht
  subst ht
  all_goals exact ⟨by kernel_rfl, of_decide_eq_true (by kernel_rfl)⟩
theorem reads (os : Os) {H : Type} (enc : TypeId × Value → H) : ∃ places, DataW.whole enc Tryd.prog ((Frame.dataWorld os Rows.pathComparesRow.laid).forCall (fun _ _ => 0) ⟨#[], #[.string ⟨#[]⟩, .string ⟨#[]⟩], []⟩).memory Tryd.f8.params.toList Rows.pathComparesSpec.vars false (#[.string ⟨#[]⟩, .string ⟨#[]⟩] : Array Value).toList 8 = some ([.lit (.string []), .lit (.string [])], [], places) :=
  ⟨[], by kernel_rfl⟩
set_option maxRecDepth 100000 in
theorem lifted (os : Os) (started : os.Started) (H : Type) (enc : TypeId × Value → H) (Fi : Stop.Interp) :
    ReturnsInHanded {} Tryd.checked os 8 .any ((OpenSpec.ofChange Rows.pathComparesSpec).preRow enc Tryd.prog Tryd.f8 Rows.pathComparesRow.domain false Rows.pathComparesRow.laid) (((OpenSpec.ofChange Rows.pathComparesSpec).at Fi).post enc Tryd.prog Tryd.f8 false true false false) := by
  obtain ⟨places, hx⟩ := reads os enc
  exact Frame.liftedP Tryd.func8 (by kernel_rfl) plain (by kernel_rfl) read walk os started H enc Fi
    (witness_row_at (enc := enc) (C := Tryd.checked) false (Frame.dataWorld os Rows.pathComparesRow.laid) #[.string ⟨#[]⟩, .string ⟨#[]⟩] rfl (by kernel_rfl) (by kernel_rfl) (by kernel_rfl)
      (OpenSpec.preRow_of_cond 8 hx (by kernel_rfl) (fun k hk => by cases hk) (by kernel_rfl) (Frame.dataWorld_met (by kernel_rfl) _ (by kernel_rfl) (by kernel_rfl))))
set_option maxRecDepth 100000 in
theorem said : Rows.PathComparesSaid :=
  OpenClaim.holds_of_cond 8 Tryd.f8 rfl rfl rfl rfl rfl rfl rfl ⟨rfl, rfl, rfl, rfl, rfl⟩ rfl rfl rfl rfl rfl (by kernel_rfl) Tryd.func8 (by kernel_rfl)
    (of_decide_eq_true (by kernel_rfl)) (by unfold Func.isWrapper; first | (rw [if_pos (by decide +kernel)]; kernel_rfl) | (rw [if_neg (by decide +kernel)]; exact ⟨rfl, rfl⟩))
    (fun os started H enc _ F => by rw [OpenClaim.pre_eq_preRow]; exact lifted os started H enc F)
theorem looks (f : FuncId) (fn : Func) (hf : Tryd.pinned.checked.prog.funcNamed "revetment/revetmentlaw.PathCompares" = some f) (hfn : Tryd.pinned.checked.prog.funcs[f]? = some fn) :
    Rows.pathComparesCard.stood.looks = Tryd.pinned.checked.prog.looks [] ∧ ∀ (j : Nat) t, fn.params[j]? = some t → Tryd.pinned.checked.prog.wantsStandIn t = false := by
  obtain rfl : f = 8 := Option.some.inj ((show Tryd.prog.funcNamed "revetment/revetmentlaw.PathCompares" = some 8 by kernel_rfl).symm.trans hf) |>.symm
  obtain rfl : fn = Tryd.f8 := (Option.some.inj (Tryd.func8.symm.trans hfn)).symm
  refine ⟨by kernel_rfl, fun j t ht => ?_⟩
  rw [Tryd.params8] at ht
  have ht' := Array.mem_of_getElem? ht
  simp at ht'
  subst ht'
  · exact (show Tryd.prog.wantsStandIn 9 = false by kernel_rfl)
theorem pathCompares_holds : Rows.PathComparesCardSaid :=
  Claim7.holds_tied_plain_at .later [] _ _ _ _ said (fun _ h => by cases h) (by kernel_rfl) (fun _ h => by cases h) pathCompares_row_tie rfl ⟨rfl, rfl⟩ (by kernel_rfl) rfl looks (by kernel_rfl)
#print axioms pathCompares_holds
end Go.Proofs.YtioceakpmnhohaaDoor.pathCompares
