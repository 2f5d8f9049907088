/-
  The law PaxGets holds: Get returns what the reference returns for any pairs and key. No conditions.
-/
import Derived.Test.YtedcibjnnihhfaaGetRef
import Derived.Test.YtedcibjnnihhfaaHeavy
namespace Go.Proofs.Ytedcibjnnihhfaa.paxGets
open Go.ChangeShapes Go.WideShapes Go.ChangeAt Go.RowKit Go.Joins
open Go.ChangeMaps (open_string shut_string)

theorem both (w : World) (v : Value) (n : Nat) (K X : Nat → ByteArray) (key : ByteArray) (h : IsPairs w v n K X) :
    (Calls Try.prog 8 #[v, .string key] w fun e w' => e = .returned (.tuple #[.string (getV K X key n), .bool (!(getV K X key n).toList.isEmpty)]) ∧ Ext w w') ∧
      Calls Try.prog 9 #[v, .string key] w fun e w' => e = .returned (.tuple #[.string (getV K X key n), .bool (!(getV K X key n).toList.isEmpty)]) ∧ Ext w w' := by
  rcases h with ⟨⟨a, c, rfl⟩, rfl⟩ | ⟨b, off, cap, rfl, hn, hc⟩
  · exact ⟨ref_none w a c K X key, get_some w a 0 c K X key (by omega) fun k hk => by omega⟩
  · exact ⟨ref_some w b off n cap K X key hn hc, get_some w _ n cap K X key hn fun k hk => ⟨b, off, rfl, (hc k hk).2.2.1, (hc k hk).2.2.2⟩⟩

set_option maxHeartbeats 1600000 in
set_option maxRecDepth 100000 in
theorem law (w : World) (v : Value) (n : Nat) (K X : Nat → ByteArray) (key : ByteArray) (h : IsPairs w v n K X) :
    Calls Try.prog 3 #[v, .string key] w fun e w' => e = .returned (.bool true) ∧ Ext w w' := by
  have C1 := Lib.hid (heavy_any w v n K X h)
  have hl : ∃ a cap, v = .slice a n cap := by
    rcases h with ⟨⟨a0, c0, rfl⟩, rfl⟩ | ⟨b, off, cap, rfl, hn, _⟩
    · exact ⟨_, _, rfl⟩
    · exact ⟨_, _, rfl⟩
  have C2 := Lib.hid (fun w1 (hE : Ext w w1) => (both w1 v n K X key (h.ext hE)).1)
  have C3 := Lib.hid (fun w1 (hE : Ext w w1) => (both w1 v n K X key (h.ext hE)).2)
  clear h
  generalize getV K X key n = g at *
  obtain ⟨a, cap, rfl⟩ := hl
  cases hH : heavyB n K X with
  | true =>
    rw [hH] at C1
    clear hH
    go_enter Try.func3, Try.ntmps3
    go_wp2_with fail
    refine C1.out.mono ?_; rintro e w1 ⟨rfl, hx1⟩
    go_wp2_with fail
    go_ret
    exact ⟨rfl, hx1⟩
  | false =>
    rw [hH] at C1
    clear hH
    go_enter Try.func3, Try.ntmps3
    go_wp2_with fail
    refine C1.out.mono ?_; rintro e w1 ⟨rfl, hx1⟩
    go_wp2_with fail
    refine (C2.out _ hx1).mono ?_; rintro e w2 ⟨rfl, hx2⟩
    have hy2 := hx1.trans hx2
    go_wp2_with fail
    refine (C3.out _ hy2).mono ?_; rintro e w3 ⟨rfl, hx3⟩
    go_wp2_with fail
    go_ret
    exact ⟨ret_bool (by simp), hy2.trans hx3⟩

set_option maxRecDepth 100000 in
theorem walk : Frame.Walks 3 Try.f3 := by
  intro H enc W base args ds p hval hA hsz
  rw [Try.params3] at hA hval hsz
  obtain ⟨v0, v1, d0, d1, p0, p1, rfl, rfl, rfl, h0, h1⟩ := trodAll_two hA
  obtain ⟨n, K, X, hp⟩ := arg_pairs (hval 0 22 v0 rfl rfl) h0 hsz (j := 0) rfl rfl
  obtain ⟨s, rfl, rfl, rfl, hs⟩ := open_string Try.underlying9 (hval 1 9 v1 rfl rfl) h1
  exact law W v0 n K X s hp

/-! ### The row -/
theorem plain : Frame.Plain Rows.paxGetsSpec Try.f3 := by
  refine ⟨rfl, fun H ds h => ?_⟩
  rw [Try.params3] at h
  match ds, h with
  | [_, _], _ => rfl
theorem read : ∀ t ∈ Try.f3.params.toList, Try.prog.readableRec t = true ∧ t < Try.prog.types.size := by
  rw [Try.params3]
  intro t ht
  simp at ht
  rcases ht with rfl | rfl
  all_goals exact ⟨by kernel_rfl, of_decide_eq_true (by kernel_rfl)⟩
set_option maxRecDepth 100000 in
theorem over : Rows.paxGetsRow.holds Try.pinned (OpenSpec.ofChange Rows.paxGetsSpec) :=
  OpenClaim.holds_of_wide 3 Try.f3 rfl rfl rfl rfl rfl rfl rfl ⟨rfl, rfl, rfl, rfl, rfl⟩ rfl rfl rfl rfl rfl (by kernel_rfl) Try.func3 (by kernel_rfl)
    (of_decide_eq_true (by kernel_rfl)) (by unfold Func.isWrapper; first | (rw [if_pos (by decide +kernel)]; kernel_rfl) | (rw [if_neg (by decide +kernel)]; exact ⟨rfl, rfl⟩))
    (fun os started H enc _ => Frame.lifted Try.func3 (by kernel_rfl) plain (by kernel_rfl) read walk os started H enc
      (ChangeSpec.witness6 (enc := enc) (C := Try.checked) false ⟨#[], #[.slice none 0 0, .string ⟨#[]⟩], []⟩ 8 (by kernel_rfl) (by kernel_rfl) (by kernel_rfl) (by kernel_rfl)))

theorem paxGets_holds : Rows.PaxGetsSaid := over
#print axioms paxGets_holds
end Go.Proofs.Ytedcibjnnihhfaa.paxGets
