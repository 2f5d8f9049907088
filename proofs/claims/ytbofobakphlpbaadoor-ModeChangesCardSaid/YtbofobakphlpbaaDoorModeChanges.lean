/-
  The law ModeChanges holds: mode.Change returns what the reference returns for any arguments. No conditions.
-/
import Derived.Test.YtbofobakphlpbaaDoorChgRW
import Derived.Test.YtbofobakphlpbaaDoorChgRX
import Derived.Test.YtbofobakphlpbaaDoorFrameB
import Derived.Test.YtbofobakphlpbaaDoorWit
namespace Go.Proofs.YtbofobakphlpbaaDoor.modeChanges
open Go.ChangeShapes Go.WideShapes Go.ChangeAt Go.RowKit Go.PlainAid
open Go.ChangeMaps (open_string shut_string)

/-- Both ways of a change, at the arguments. -/
def Both (m : Int) (s : ByteArray) (dir : Bool) : Prop := ∃ a k : Int,
  (∀ w, HasMax w → Calls Tryd.prog 7 #[.int .i64 m, .string s, .bool dir] w fun e w' => e = .returned (.tuple #[.int .i64 a, .int .i64 k]) ∧ Ext w w') ∧
  (∀ w, Calls Tryd.prog 8 #[.int .i64 m, .string s, .bool dir] w fun e w' => e = .returned (.tuple #[.int .i64 a, errOf k]) ∧ Ext w w')
theorem tw_none {l : List UInt8} {k : Nat} {c : UInt8} (h : l[k]? = some c) (hc : isOct c = false) : l.takeWhile isOct = [] ∨ l.dropWhile isOct ≠ [] := by
  refine .inr fun e => ?_
  have h1 := List.takeWhile_append_dropWhile (p := isOct) (l := l)
  rw [e, List.append_nil] at h1
  have hm : c ∈ l.takeWhile isOct := by rw [h1]; exact List.mem_of_getElem? h
  have := mem_tw hm
  rw [hc] at this
  cases this
theorem first_bad {s : ByteArray} (h : ¬ AllO s) : ∃ m, m < s.size ∧ (∀ j, j < m → 48 ≤ bt s j ∧ bt s j ≤ 55) ∧ (bt s m < 48 ∨ 55 < bt s m) := by
  have key : ∀ n, n ≤ s.size → (∀ j, j < n → 48 ≤ bt s j ∧ bt s j ≤ 55) ∨ ∃ m, m < s.size ∧ (∀ j, j < m → 48 ≤ bt s j ∧ bt s j ≤ 55) ∧ (bt s m < 48 ∨ 55 < bt s m) := by
    intro n
    induction n with
    | zero => exact fun _ => .inl fun j hj => absurd hj (Nat.not_lt_zero j)
    | succ n ih =>
      intro hn
      rcases ih (by omega) with h | h
      · by_cases hb : 48 ≤ bt s n ∧ bt s n ≤ 55
        · refine .inl fun j hj => ?_
          by_cases e : j = n
          · rw [e]; exact hb
          · exact h j (by omega)
        · exact .inr ⟨n, by omega, h, by omega⟩
      · exact .inr h
  rcases key s.size (Nat.le_refl _) with h1 | h1
  · exact absurd h1 h
  · exact h1
theorem both (m : Int) (s : ByteArray) (dir : Bool) (hs : s.size ≤ 1000) : Both m s dir := by
  by_cases h : m < 0 ∨ 4095 < m
  · exact ⟨0, 2, fun w _ => refChange_rng m s dir h w, fun w => change_rng m s dir h w⟩
  · have h0 : 0 ≤ m := by omega
    have h1 : m ≤ 4095 := by omega
    clear h
    by_cases ha : AllO s ∧ 0 < s.size
    · obtain ⟨ha, hz⟩ := ha
      have C1 := fun w => refChange_oct m s dir h0 h1 hs hz ha w
      have C2 := fun w => change_oct m s dir h0 h1 hs hz ha w
      rcases octK_two 5000 1048576 (by decide) (by decide) s s.size (fun j hj => ha j hj) with ⟨e1, e2⟩ | ⟨e1, e2⟩
      · simp only [← e1, if_neg (show ¬ 4095 < octK 5000 s s.size by omega)] at C1 C2
        exact ⟨octK 5000 s s.size, 0, fun w _ => C1 w, C2⟩
      · simp only [if_pos e1, if_pos e2] at C1 C2
        exact ⟨0, 2, fun w _ => C1 w, C2⟩
    · obtain ⟨n, rfl⟩ : ∃ n : Nat, m = (n : Int) := ⟨m.toNat, by omega⟩
      have hn : n < 4096 := by omega
      have key : (s.data.toList.takeWhile isOct = [] ∨ s.data.toList.dropWhile isOct ≠ []) ∧ ∃ k : Int, ∀ w, Calls Tryd.prog 24 #[.string s] w fun e w' => e = .returned (.tuple #[.int .i64 k, .bool false]) ∧ Ext w w' := by
        by_cases hA : AllO s
        · have hz : s.size = 0 := by
            have : ¬ 0 < s.size := fun h => ha ⟨hA, h⟩
            omega
          have hl : s.data.toList = [] := List.eq_nil_of_length_eq_zero hz
          refine ⟨.inl (by rw [hl]; rfl), octK 1048576 s s.size, fun w => ?_⟩
          have := octal_all s hs hA w
          rwa [emp_t hl] at this
        · obtain ⟨k, hk, hj, hx⟩ := first_bad hA
          refine ⟨?_, 0, fun w => octal_bad s hs k hk hj hx w⟩
          obtain ⟨c, hc⟩ : ∃ c, s.data.toList[k]? = some c := ⟨_, List.getElem?_eq_getElem hk⟩
          refine tw_none hc ?_
          have := (bt_some hc).2
          cases hq : isOct c with
          | false => rfl
          | true =>
            have := (isOct_iff c).1 hq
            omega
      obtain ⟨hno, k, CO⟩ := key
      have C1 := fun w hx => refChange_seq n hn s hs dir hno w hx
      have C2 := fun w => change_seq n s dir hn hs k CO w
      cases hv : allV dir n (bts (cmS s)) with
      | none =>
        simp only [hv] at C1 C2
        exact ⟨0, 3, C1, C2⟩
      | some x =>
        simp only [hv] at C1 C2
        exact ⟨(x : Int), 0, C1, C2⟩

set_option maxRecDepth 100000 in
theorem law (m : Int) (s : ByteArray) (dir : Bool) (w : World) (hg : HasHandle w) (hm : HasMax w) : Calls Tryd.prog 3 #[.int .i64 m, .string s, .bool dir] w fun e w' => e = .returned (.bool true) ∧ Ext w w' := by
  by_cases h : 60 < (s.size : Int)
  · go_enter Tryd.func3, Tryd.ntmps3
    go_wp2_with fail
    go_ret
    exact ⟨ret_bool (by simp), (by show Below _ _ _; repeat' (first | (with_reducible exact Below.refl _ _) | (with_reducible assumption) | (with_reducible refine belowDrewN ?_ _) | (with_reducible refine Below.alloc ?_ ?_ _) | (with_reducible refine Below.drew ?_) | (with_reducible refine Below.setCell ?_ ?_ _) | go_size))⟩
  · obtain ⟨a, k, C1, C2⟩ := both m s dir (by omega)
    replace C1 := Lib.hid C1
    replace C2 := Lib.hid C2
    go_enter Tryd.func3, Tryd.ntmps3
    go_wp2_with fail
    refine (C1.out _ hm).mono ?_; rintro e w1 ⟨rfl, hx1⟩
    go_wp2_with fail
    refine (C2.out _).mono ?_; rintro e w2 ⟨rfl, hx2⟩
    go_wp2_with fail
    refine (bare_any _ _ _ (hg.ext (Ext.trans hx1 hx2))).mono ?_; rintro e w3 ⟨rfl, hx3⟩
    go_wp2_with fail
    go_ret
    exact ⟨ret_bool (by simp), (hx1.trans hx2).trans hx3⟩

set_option maxRecDepth 100000 in
theorem walk : Frame.WalksP Rows.modeChangesRow.laid 3 Tryd.f3 := by
  intro H enc W base args ds p hL hSh hval hA hsz
  have hg := Frame.handle_of_laidB rfl hL
  have hm := HasMax.ofShaped hSh
  rw [Tryd.params3] at hA hval hsz
  obtain ⟨v0, v1, v2, d0, d1, d2, p0, p1, p2, rfl, rfl, rfl, h0, h1, h2⟩ := trodAll_three hA
  obtain ⟨m, rfl, rfl, rfl, wd⟩ := open_int Tryd.underlying3 (hval 0 3 v0 rfl rfl) h0
  obtain ⟨s, rfl, rfl, rfl, hs⟩ := open_string Tryd.underlying9 (hval 1 9 v1 rfl rfl) h1
  obtain ⟨b, rfl, rfl, rfl⟩ := open_bool Tryd.underlying4 (hval 2 4 v2 rfl rfl) h2
  exact law m s b W hg hm

/-! ### The row and the card -/
theorem plain : Frame.Plain Rows.modeChangesSpec Tryd.f3 := by
  refine ⟨rfl, fun H ds h => ?_⟩
  rw [Tryd.params3] at h
  match ds, h with
  | [_, _, _], _ => rfl
theorem read : ∀ t ∈ Tryd.f3.params.toList, Tryd.prog.readableRec t = true ∧ t < Tryd.prog.types.size := by
  rw [Tryd.params3]
  intro t ht
  simp at ht
  rcases ht with rfl | rfl | rfl
  all_goals exact ⟨by kernel_rfl, of_decide_eq_true (by kernel_rfl)⟩
theorem reads (os : Os) {H : Type} (enc : TypeId × Value → H) : ∃ places, DataW.whole enc Tryd.prog ((Frame.bothWorld os Rows.modeChangesRow.laid).forCall (fun _ _ => 0) ⟨#[], #[.int .i64 0, .string ⟨#[]⟩, .bool false], []⟩).memory Tryd.f3.params.toList Rows.modeChangesSpec.vars false (#[.int .i64 0, .string ⟨#[]⟩, .bool false] : Array Value).toList 8 = some ([.lit (.int .i64 0), .lit (.string []), .lit (.bool false)], [], places) :=
  ⟨[], by kernel_rfl⟩
set_option maxRecDepth 100000 in
theorem lifted (os : Os) (started : os.Started) (H : Type) (enc : TypeId × Value → H) (Fi : Stop.Interp) :
    ReturnsInHanded {} Tryd.checked os 3 .any ((OpenSpec.ofChange Rows.modeChangesSpec).preRow enc Tryd.prog Tryd.f3 Rows.modeChangesRow.domain false Rows.modeChangesRow.laid) (((OpenSpec.ofChange Rows.modeChangesSpec).at Fi).post enc Tryd.prog Tryd.f3 false true false false) := by
  obtain ⟨places, hx⟩ := reads os enc
  exact Frame.liftedP Tryd.func3 (by kernel_rfl) plain (by kernel_rfl) read walk os started H enc Fi
    (Frame.witness_zip (enc := enc) (C := Tryd.checked) false (Frame.bothWorld os Rows.modeChangesRow.laid) #[.int .i64 0, .string ⟨#[]⟩, .bool false] rfl (by kernel_rfl) (by kernel_rfl) (by kernel_rfl)
      (OpenSpec.preRow_of_cond 8 hx (by kernel_rfl) (fun k hk => by cases hk) (by kernel_rfl) (Frame.bothWorld_met _ (by kernel_rfl) (by kernel_rfl) (by kernel_rfl))))
set_option maxRecDepth 100000 in
theorem said : Rows.ModeChangesSaid :=
  OpenClaim.holds_of_cond 3 Tryd.f3 rfl rfl rfl rfl rfl rfl rfl ⟨rfl, rfl, rfl, rfl, rfl⟩ rfl rfl rfl rfl rfl (by kernel_rfl) Tryd.func3 (by kernel_rfl)
    (of_decide_eq_true (by kernel_rfl)) (by unfold Func.isWrapper; first | (rw [if_pos (by decide +kernel)]; kernel_rfl) | (rw [if_neg (by decide +kernel)]; exact ⟨rfl, rfl⟩))
    (fun os started H enc _ F => by rw [OpenClaim.pre_eq_preRow]; exact lifted os started H enc F)
theorem looks (f : FuncId) (fn : Func) (hf : Tryd.pinned.checked.prog.funcNamed "revetment/revetmentlaw.ModeChanges" = some f) (hfn : Tryd.pinned.checked.prog.funcs[f]? = some fn) :
    Rows.modeChangesCard.stood.looks = Tryd.pinned.checked.prog.looks [] ∧ ∀ (j : Nat) t, fn.params[j]? = some t → Tryd.pinned.checked.prog.wantsStandIn t = false := by
  obtain rfl : f = 3 := Option.some.inj ((show Tryd.prog.funcNamed "revetment/revetmentlaw.ModeChanges" = some 3 by kernel_rfl).symm.trans hf) |>.symm
  obtain rfl : fn = Tryd.f3 := (Option.some.inj (Tryd.func3.symm.trans hfn)).symm
  refine ⟨by kernel_rfl, fun j t ht => ?_⟩
  rw [Tryd.params3] at ht
  have ht' := Array.mem_of_getElem? ht
  simp at ht'
  rcases ht' with rfl | rfl | rfl
  · exact (show Tryd.prog.wantsStandIn 3 = false by kernel_rfl)
  · exact (show Tryd.prog.wantsStandIn 9 = false by kernel_rfl)
  · exact (show Tryd.prog.wantsStandIn 4 = false by kernel_rfl)
theorem modeChanges_holds : Rows.ModeChangesCardSaid :=
  Claim7.holds_tied_plain_at .later [] _ _ _ _ said (fun _ h => by cases h) (by kernel_rfl) (fun _ h => by cases h) modeChanges_row_tie rfl ⟨rfl, rfl⟩ (by kernel_rfl) rfl looks (by kernel_rfl)
#print axioms modeChanges_holds
end Go.Proofs.YtbofobakphlpbaaDoor.modeChanges
