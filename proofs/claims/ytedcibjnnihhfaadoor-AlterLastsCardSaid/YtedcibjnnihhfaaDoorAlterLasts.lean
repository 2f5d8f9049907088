/-
  The law AlterLasts holds: Last returns what the reference returns for any members. No conditions.
-/
import Derived.Test.YtedcibjnnihhfaaDoorLastR
import Derived.Test.YtedcibjnnihhfaaDoorFrameP
import Derived.Test.YtedcibjnnihhfaaDoorWit
namespace Go.Proofs.YtedcibjnnihhfaaDoor.alterLasts
open Go.ChangeShapes Go.WideShapes Go.ChangeAt Go.RowKit Go.Joins

theorem lots_sm {n : Nat} {E : Nat → Ent} (h : lotsB n E 45 = false) : n ≤ 45 ∧ ∀ k, k < n → (E k).nm.size ≤ 100000 := by
  unfold lotsB at h
  rw [Bool.or_eq_false_iff] at h
  obtain ⟨h1, h2⟩ := h
  refine ⟨by have := of_decide_eq_false h1; omega, fun k hk => ?_⟩
  rw [List.any_eq_false] at h2
  have h3 := h2 k (by simpa using hk)
  unfold largeB at h3
  simp at h3
  omega

theorem as_sm (w : World) (v : Value) (n : Nat) (E : Nat → Ent) (hm : HasMax w) (h : IsEnts w v n E) (hcap : ∃ a n c, v = .slice a n c ∧ n ≤ c ∧ c ≤ maxLen) (hL : lotsB n E 45 = false) :
    ∃ l : List Int, l.length ≤ 45 ∧ (∀ w1, Ext w w1 → Calls Tryd.prog 18 #[v] w1 (GivesInts l w1)) ∧ ∀ w1, Ext w w1 → Calls Tryd.prog 19 #[v] w1 (GivesInts l w1) := by
  obtain ⟨hn, hnm⟩ := lots_sm hL
  rcases h with ⟨⟨a, c, rfl⟩, rfl⟩ | ⟨b, off, cap, rfl, _, hc⟩
  · have e : Nat → SmEnt := fun _ => default
    exact ⟨lastL e 0 0, by have := lastL_len e 0 0; omega, fun w1 _ => last_none a c e w1, fun w1 _ => refLast_none a c e w1⟩
  · obtain ⟨a', n', c', hv, hle, hmx⟩ := hcap
    obtain ⟨rfl, rfl, rfl⟩ := by simpa using hv
    have dec : ∀ k, Decidable ((E k).Ok ∧ (E k).nm.size ≤ 100000) := fun k => Classical.propDecidable _
    have hex : ∃ E' : Nat → SmEnt, ∀ k, k < n → (E' k).1 = E k :=
      ⟨fun k => if h : (E k).Ok ∧ (E k).nm.size ≤ 100000 then ⟨E k, h⟩ else default, fun k hk => by dsimp only; rw [dif_pos ⟨(hc k hk).1, hnm k hk⟩]⟩
    obtain ⟨E', hE'⟩ := hex
    have hS : Ents w b off n E' := fun k hk j hj => by rw [hE' k hk]; exact (hc k hk).2 j hj
    exact ⟨lastL E' n n, by have := lastL_len E' n n; omega, fun w1 hE => last_any E' b off n cap w1 (hm.ext hE) (hS.ext hE) hn hle hmx, fun w1 hE => refLast_any E' b off n cap w1 (hm.ext hE) (hS.ext hE) hn hle hmx⟩

set_option maxHeartbeats 4000000 in
set_option maxRecDepth 100000 in
theorem law (w : World) (v : Value) (n : Nat) (E : Nat → Ent) (hm : HasMax w) (h : IsEnts w v n E) (hcap : ∃ a n c, v = .slice a n c ∧ n ≤ c ∧ c ≤ maxLen) : Calls Tryd.prog 4 #[v] w fun x w' => x = .returned (.bool true) ∧ Ext w w' := by
  have C1 := Lib.hid (lots_any w v n E 45 h)
  cases hL : lotsB n E 45 with
  | true =>
    have HL := Lib.hid hL
    clear hL h
    obtain ⟨a, m, c, rfl, _, _⟩ := hcap
    go_enter Tryd.func4, Tryd.ntmps4
    go_wp2_with fail
    refine C1.out.mono ?_; rintro e w1 ⟨rfl, hx1⟩
    rw [HL.out]
    go_wp2_with fail
    go_ret
    exact ⟨rfl, hx1⟩
  | false =>
    obtain ⟨l, hl, D2, D3⟩ := as_sm w v n E hm h hcap hL
    have C2 := Lib.hid D2
    have C3 := Lib.hid D3
    have HL := Lib.hid hL
    clear hL h D2 D3
    obtain ⟨a, m, c, rfl, _, _⟩ := hcap
    go_enter Tryd.func4, Tryd.ntmps4
    go_wp2_with fail
    refine C1.out.mono ?_; rintro e w1 ⟨rfl, hx1⟩
    rw [HL.out]
    go_wp2_with fail
    refine (C2.out _ hx1).mono ?_; rintro e w2 ⟨v2, rfl, hI2, hx2⟩
    have hy2 := hx1.trans hx2
    go_wp2_with fail
    refine (C3.out _ hy2).mono ?_; rintro e w3 ⟨v3, rfl, hI3, hx3⟩
    have hy3 := hy2.trans hx3
    obtain ⟨a2, c2, rfl, _, hc2⟩ := hI2.open
    obtain ⟨a3, c3, rfl, _, hc3⟩ := hI3.open
    have K2 := Lib.hid hc2
    have K3 := Lib.hid hc3
    clear hI2 hI3 hc2 hc3
    go_wp2_with fail
    go_loopw [5] (fun i wr => ∃ k : Nat, k ≤ l.length ∧ i = .int .i64 (k : Int) ∧ Ext w3 wr) (fun i _ => l.length - (intOf i).toNat)
    case atStart => exact ⟨0, by omega, rfl, Ext.refl _⟩
    case round =>
      obtain ⟨k, hk, rfl, hE⟩ := hrel
      by_cases hlt : k < l.length
      · obtain ⟨b2, o2, rfl, q2⟩ := K2.out k hlt
        obtain ⟨b3, o3, rfl, q3⟩ := K3.out k hlt
        have g2 := hE.cell (hx3.cell q2)
        have g3 := hE.cell q3
        have lb : b2 < wr.heap.size := World.block_lt_of_cell? wr _ g2
        have lb' : b3 < wr.heap.size := World.block_lt_of_cell? wr _ g3
        generalize l[k] = x at *
        clear q2 q3
        go_wp2_with fail
        refine wp_region_det (Stood _) (by kernel_rfl) (by kernel_rfl) (Stood.start _) ?_
        repeat (first
          | (refine det_skip (by rfl) ?_; simp only [Act.put, List.setIfInBounds_toArray, List.set_cons_zero, List.set_cons_succ])
          | (refine det_op (v := ?_) rfl (by rfl) (fun w' hS => ?_) ?_; rotate_left; (focus (obtain ⟨hcl, hxt⟩ := hS; go_wp2_with (fail); (first | refine ⟨?_, rfl, hcl, hxt⟩ | refine ⟨?_, rfl, Stood.of (hxt.trans (by assumption))⟩); (first | (simp only [List.getElem?_toArray, List.getElem?_cons_succ, List.getElem?_cons_zero]; rfl) | rfl))); simp only [Act.put, List.setIfInBounds_toArray, List.set_cons_zero, List.set_cons_succ]))
        refine det_end ?_
        intro w4 hS
        have hx := hS.2
        clear hS
        go_wp2_with fail
        go_roundw
        case rel => exact ⟨k + 1, hlt, by go_num, hE.trans hx⟩
        case measure => simp [intOf]; omega
      · obtain rfl : k = l.length := by omega
        go_wp2_with fail
        go_ret
        exact ⟨rfl, hy3.trans hE⟩

set_option maxRecDepth 100000 in
theorem walk : Frame.WalksP Rows.alterLastsRow.laid 4 Tryd.f4 := by
  intro H enc W base args ds p hL hSh hval hA hsz
  have hm := HasMax.ofShaped hSh
  rw [Tryd.params4] at hA hval hsz
  obtain ⟨v0, d0, rfl, rfl, h0⟩ := trodAll_one hA
  obtain ⟨n, E, _, _, hp, _⟩ := arg_ents (hval 0 32 v0 rfl rfl) h0 hsz (j := 0) rfl rfl
  exact law W v0 n E hm hp (arg_cap (hval 0 32 v0 rfl rfl) h0 hsz (j := 0) rfl rfl)

/-! ### The row and the card -/
theorem plain : Frame.Plain Rows.alterLastsSpec Tryd.f4 := by
  refine ⟨rfl, fun H ds h => ?_⟩
  rw [Tryd.params4] at h
  match ds, h with
  | [_], _ => rfl
theorem read : ∀ t ∈ Tryd.f4.params.toList, Tryd.prog.readableRec t = true ∧ t < Tryd.prog.types.size := by
  rw [Tryd.params4]
  intro t ht
  simp at ht
  subst ht
  all_goals exact ⟨by kernel_rfl, of_decide_eq_true (by kernel_rfl)⟩
theorem reads (os : Os) {H : Type} (enc : TypeId × Value → H) : ∃ places, DataW.whole enc Tryd.prog ((Frame.dataWorld os Rows.alterLastsRow.laid).forCall (fun _ _ => 0) ⟨#[], #[.slice none 0 0], []⟩).memory Tryd.f4.params.toList Rows.alterLastsSpec.vars false (#[.slice none 0 0] : Array Value).toList 8 = some ([.nil], [], places) :=
  ⟨[], by kernel_rfl⟩
set_option maxRecDepth 100000 in
theorem lifted (os : Os) (started : os.Started) (H : Type) (enc : TypeId × Value → H) (Fi : Stop.Interp) :
    ReturnsInHanded {} Tryd.checked os 4 .any ((OpenSpec.ofChange Rows.alterLastsSpec).preRow enc Tryd.prog Tryd.f4 Rows.alterLastsRow.domain false Rows.alterLastsRow.laid) (((OpenSpec.ofChange Rows.alterLastsSpec).at Fi).post enc Tryd.prog Tryd.f4 false true false false) := by
  obtain ⟨places, hx⟩ := reads os enc
  exact Frame.liftedP Tryd.func4 (by kernel_rfl) plain (by kernel_rfl) read walk os started H enc Fi
    (Frame.witness_zip (enc := enc) (C := Tryd.checked) false (Frame.dataWorld os Rows.alterLastsRow.laid) #[.slice none 0 0] rfl (by kernel_rfl) (by kernel_rfl) (by kernel_rfl)
      (OpenSpec.preRow_of_cond 8 hx (by kernel_rfl) (fun k hk => by cases hk) (by kernel_rfl) (Frame.dataWorld_met (by kernel_rfl) _ (by kernel_rfl) (by kernel_rfl))))
set_option maxRecDepth 100000 in
theorem said : Rows.AlterLastsSaid :=
  OpenClaim.holds_of_cond 4 Tryd.f4 rfl rfl rfl rfl rfl rfl rfl ⟨rfl, rfl, rfl, rfl, rfl⟩ rfl rfl rfl rfl rfl (by kernel_rfl) Tryd.func4 (by kernel_rfl)
    (of_decide_eq_true (by kernel_rfl)) (by unfold Func.isWrapper; first | (rw [if_pos (by decide +kernel)]; kernel_rfl) | (rw [if_neg (by decide +kernel)]; exact ⟨rfl, rfl⟩))
    (fun os started H enc _ F => by rw [OpenClaim.pre_eq_preRow]; exact lifted os started H enc F)
theorem looks (f : FuncId) (fn : Func) (hf : Tryd.pinned.checked.prog.funcNamed "revetment/revetmentlaw.AlterLasts" = some f) (hfn : Tryd.pinned.checked.prog.funcs[f]? = some fn) :
    Rows.alterLastsCard.stood.looks = Tryd.pinned.checked.prog.looks [] ∧ ∀ (j : Nat) t, fn.params[j]? = some t → Tryd.pinned.checked.prog.wantsStandIn t = false := by
  obtain rfl : f = 4 := Option.some.inj ((show Tryd.prog.funcNamed "revetment/revetmentlaw.AlterLasts" = some 4 by kernel_rfl).symm.trans hf) |>.symm
  obtain rfl : fn = Tryd.f4 := (Option.some.inj (Tryd.func4.symm.trans hfn)).symm
  refine ⟨by kernel_rfl, fun j t ht => ?_⟩
  rw [Tryd.params4] at ht
  have ht' := Array.mem_of_getElem? ht
  simp at ht'
  subst ht'
  · exact (show Tryd.prog.wantsStandIn 32 = false by kernel_rfl)
theorem alterLasts_holds : Rows.AlterLastsCardSaid :=
  Claim7.holds_tied_plain_at .later [] _ _ _ _ said (fun _ h => by cases h) (by kernel_rfl) (fun _ h => by cases h) alterLasts_row_tie rfl ⟨rfl, rfl⟩ (by kernel_rfl) rfl looks (by kernel_rfl)
#print axioms alterLasts_holds
end Go.Proofs.YtedcibjnnihhfaaDoor.alterLasts
