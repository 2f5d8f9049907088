/-
  The law PaxJoins holds: pax.Merge returns what the reference returns for any lists. No conditions.
-/
import Derived.Test.YtnnoeckmkjhdbaaMgP
import Derived.Test.YtnnoeckmkjhdbaaHeavy
import Derived.Test.YtnnoeckmkjhdbaaNum
namespace Go.Proofs.Ytnnoeckmkjhdbaa.paxJoins
open Go.ChangeShapes Go.WideShapes Go.ChangeAt Go.RowKit Go.Joins

theorem heavy_bd {n : Nat} {K X : Nat → ByteArray} (h : heavyB n K X = false) : n ≤ 30 ∧ ∀ j, j < n → (K j).size + (X j).size ≤ 300 := by
  unfold heavyB at h
  rw [Bool.or_eq_false_iff, decide_eq_false_iff_not, List.any_eq_false] at h
  refine ⟨by omega, fun j hj => ?_⟩
  have := h.2 j (by simpa using hj)
  simp only [decide_eq_true_eq] at this
  omega
def prL (n : Nat) (K X : Nat → ByteArray) : List Pr := (List.range n).map fun i => (K i, X i)
theorem prL_len (n : Nat) (K X : Nat → ByteArray) : (prL n K X).length = n := by simp [prL]
theorem isPrs_of {W : World} {v : Value} {n : Nat} {K X : Nat → ByteArray} (h : IsPairs W v n K X) : IsPrs W v (prL n K X) := by
  rcases h with ⟨ha, rfl⟩ | ⟨b, off, cap, rfl, hn, hc⟩
  · exact .inl ⟨ha, rfl⟩
  · refine .inr ⟨b, off, cap, by rw [prL_len], fun k hk => ?_⟩
    have hk' : k < n := by simpa [prL] using hk
    have := hc k hk'
    simp only [prL, List.getElem_map, List.getElem_range]
    exact ⟨this.2.2.1, this.2.2.2⟩
theorem prL_short {n : Nat} {K X : Nat → ByteArray} (h : heavyB n K X = false) : (prL n K X).length ≤ 30 ∧ ∀ p ∈ prL n K X, p.1.size ≤ maxLen ∧ p.2.size ≤ maxLen := by
  obtain ⟨h1, h2⟩ := heavy_bd h
  refine ⟨by rw [prL_len]; exact h1, fun p hp => ?_⟩
  obtain ⟨i, hi, rfl⟩ := List.mem_map.1 hp
  have := h2 i (by simpa using hi)
  unfold maxLen
  simp only
  omega
theorem isPairs_open {W : World} {v : Value} {n : Nat} {K X : Nat → ByteArray} (h : IsPairs W v n K X) : ∃ a cap, v = .slice a n cap := by
  rcases h with ⟨⟨a0, c0, rfl⟩, rfl⟩ | ⟨b, off, cap, rfl, hn, _⟩
  · exact ⟨_, _, rfl⟩
  · exact ⟨_, _, rfl⟩
theorem cell_new3 (w : World) (a b c : Value) (t : TypeId) : ∀ k v, (#[a, b, c] : Array Value)[k]? = some v → (w.alloc (.cells #[a, b, c] t)).cell? ⟨w.heap.size, k, none⟩ = some v := by
  intro k v hv
  have h := (MapKept.heap_alloc w (.cells #[a, b, c] t)).1
  simp only [World.cell?, h]
  exact hv

set_option maxHeartbeats 4000000 in
set_option maxRecDepth 100000 in
theorem law (w : World) (v0 v1 v2 : Value) (n0 n1 n2 : Nat) (K0 X0 K1 X1 K2 X2 : Nat → ByteArray) (h0 : IsPairs w v0 n0 K0 X0) (h1 : IsPairs w v1 n1 K1 X1) (h2 : IsPairs w v2 n2 K2 X2) :
    Calls Try.prog 3 #[v0, v1, v2] w fun e w' => e = .returned (.bool true) ∧ Ext w w' := by
  have c0 := fun W (hE : Ext w W) => heavy_any W v0 n0 K0 X0 (h0.ext hE)
  have c1 := fun W (hE : Ext w W) => heavy_any W v1 n1 K1 X1 (h1.ext hE)
  have c2 := fun W (hE : Ext w W) => heavy_any W v2 n2 K2 X2 (h2.ext hE)
  have p0 := Lib.hid (isPrs_of h0)
  have p1 := Lib.hid (isPrs_of h1)
  have p2 := Lib.hid (isPrs_of h2)
  obtain ⟨a0, z0, rfl⟩ := isPairs_open h0
  obtain ⟨a1, z1, rfl⟩ := isPairs_open h1
  obtain ⟨a2, z2, rfl⟩ := isPairs_open h2
  clear h0 h1 h2
  cases q0 : heavyB n0 K0 X0 with
  | true =>
    rw [q0] at c0
    have C0 := Lib.hid c0
    clear c0 c1 c2 q0
    go_enter Try.func3, Try.ntmps3
    go_wp2_with fail
    refine (C0.out _ (Ext.refl _)).mono ?_; rintro e w1 ⟨rfl, hx1⟩
    go_wp2_with fail
    go_ret
    exact ⟨ret_bool (by simp), hx1⟩
  | false =>
    rw [q0] at c0
    have C0 := Lib.hid c0
    have s0 := Lib.hid (prL_short q0)
    clear c0 q0
    cases q1 : heavyB n1 K1 X1 with
    | true =>
      rw [q1] at c1
      have C1 := Lib.hid c1
      clear c1 c2 q1
      go_enter Try.func3, Try.ntmps3
      go_wp2_with fail
      refine (C0.out _ (Ext.refl _)).mono ?_; rintro e w1 ⟨rfl, hx1⟩
      go_wp2_with fail
      refine (C1.out _ hx1).mono ?_; rintro e w2 ⟨rfl, hx2⟩
      go_wp2_with fail
      go_ret
      exact ⟨ret_bool (by simp), hx1.trans hx2⟩
    | false =>
      rw [q1] at c1
      have C1 := Lib.hid c1
      have s1 := Lib.hid (prL_short q1)
      clear c1 q1
      cases q2 : heavyB n2 K2 X2 with
      | true =>
        rw [q2] at c2
        have C2 := Lib.hid c2
        clear c2 q2
        go_enter Try.func3, Try.ntmps3
        go_wp2_with fail
        refine (C0.out _ (Ext.refl _)).mono ?_; rintro e w1 ⟨rfl, hx1⟩
        go_wp2_with fail
        refine (C1.out _ hx1).mono ?_; rintro e w2 ⟨rfl, hx2⟩
        go_wp2_with fail
        refine (C2.out _ (hx1.trans hx2)).mono ?_; rintro e w3 ⟨rfl, hx3⟩
        go_wp2_with fail
        go_ret
        exact ⟨ret_bool (by simp), (hx1.trans hx2).trans hx3⟩
      | false =>
        rw [q2] at c2
        have C2 := Lib.hid c2
        have s2 := Lib.hid (prL_short q2)
        clear c2 q2
        obtain ⟨L0, hL0⟩ : ∃ L, L = prL n0 K0 X0 := ⟨_, rfl⟩
        obtain ⟨L1, hL1⟩ : ∃ L, L = prL n1 K1 X1 := ⟨_, rfl⟩
        obtain ⟨L2, hL2⟩ : ∃ L, L = prL n2 K2 X2 := ⟨_, rfl⟩
        rw [← hL0] at p0 s0
        rw [← hL1] at p1 s1
        rw [← hL2] at p2 s2
        obtain ⟨all, hall⟩ : ∃ all, all = [L0, L1, L2].flatten := ⟨_, rfl⟩
        have hlen : all.length ≤ 90 := by
          have h0 := s0.out.1
          have h1 := s1.out.1
          have h2 := s2.out.1
          rw [hall]
          simp only [List.flatten_cons, List.flatten_nil, List.append_nil, List.length_append]
          omega
        have hsz : ∀ p ∈ all, p.1.size ≤ maxLen ∧ p.2.size ≤ maxLen := fun p hp => by
          rw [hall] at hp
          simp only [List.flatten_cons, List.flatten_nil, List.append_nil, List.mem_append] at hp
          rcases hp with h | h | h
          · exact s0.out.2 p h
          · exact s1.out.2 p h
          · exact s2.out.2 p h
        have HA := Lib.hid (And.intro hall (And.intro hlen hsz))
        clear hL0 hL1 hL2 hall hlen hsz s0 s1 s2
        have hin : ∀ W, Ext w W → ∀ k (h : k < [L0, L1, L2].length), (W.alloc (.cells #[.slice a0 n0 z0, .slice a1 n1 z1, .slice a2 n2 z2] 22)).cell? ⟨W.heap.size, k, none⟩ = some ((#[.slice a0 n0 z0, .slice a1 n1 z1, .slice a2 n2 z2] : Array Value)[k]!) ∧
            IsPrs (W.alloc (.cells #[.slice a0 n0 z0, .slice a1 n1 z1, .slice a2 n2 z2] 22)) ((#[.slice a0 n0 z0, .slice a1 n1 z1, .slice a2 n2 z2] : Array Value)[k]!) [L0, L1, L2][k] := fun W hE k h => by
          have hx : Ext w (W.alloc (.cells #[.slice a0 n0 z0, .slice a1 n1 z1, .slice a2 n2 z2] 22)) := hE.alloc _
          have h3 : k < 3 := h
          refine ⟨cell_new3 W _ _ _ _ k _ ?_, ?_⟩
          · match k, h3 with
            | 0, _ => rfl
            | 1, _ => rfl
            | 2, _ => rfl
          · match k, h3 with
            | 0, _ => exact p0.out.ext hx
            | 1, _ => exact p1.out.ext hx
            | 2, _ => exact p2.out.ext hx
        have CM := Lib.hid (fun W (hE : Ext w W) => paxMerge_any (W.alloc (.cells #[.slice a0 n0 z0, .slice a1 n1 z1, .slice a2 n2 z2] 22)) W.heap.size 3 3 _ [L0, L1, L2] rfl (by omega) all HA.out.1 (by have := HA.out.2.1; omega) HA.out.2.2 (hin W hE))
        have CR := Lib.hid (fun W (hE : Ext w W) => refMerge_any (W.alloc (.cells #[.slice a0 n0 z0, .slice a1 n1 z1, .slice a2 n2 z2] 22)) W.heap.size 3 3 _ [L0, L1, L2] rfl (by omega) all HA.out.1 (by have := HA.out.2.1; omega) (hin W hE))
        clear hin p0 p1 p2
        go_enter Try.func3, Try.ntmps3
        go_wp2_with fail
        refine (C0.out _ (Ext.refl _)).mono ?_; rintro e w1 ⟨rfl, hx1⟩
        go_wp2_with fail
        refine (C1.out _ hx1).mono ?_; rintro e w2 ⟨rfl, hx2⟩
        have hy2 := hx1.trans hx2
        go_wp2_with fail
        refine (C2.out _ hy2).mono ?_; rintro e w3 ⟨rfl, hx3⟩
        have hy3 := hy2.trans hx3
        go_wp2_with fail
        refine (CM.out _ hy3).mono ?_; rintro e w4 ⟨u, rfl, hU, hM, hx4⟩
        have hy4 : Ext w w4 := (hy3.alloc _).trans hx4
        have HU := Lib.hid hU
        have HM := Lib.hid hM
        clear hU hM
        go_wp2_with fail
        refine (CR.out _ hy4).mono ?_; rintro e w5 ⟨u2, rfl, hU2, _, hx5⟩
        have hx45 : Ext w4 w5 := ((Ext.refl w4).alloc _).trans hx5
        have C5 := Lib.hid (samePairs_any w5 u u2 (mergeV all) (by have := mergeV_len HM.out; have := HA.out.2.1; omega) (HU.out.ext hx45) hU2)
        clear hU2
        go_wp2_with fail
        refine C5.out.mono ?_; rintro e w6 ⟨rfl, hx6⟩
        go_wp2_with fail
        go_ret
        exact ⟨ret_bool (by simp), (hy4.trans hx45).trans hx6⟩

set_option maxRecDepth 100000 in
theorem walk : Frame.Walks 3 Try.f3 := by
  intro H enc W base args ds p hval hA hsz
  rw [Try.params3] at hA hval hsz
  obtain ⟨v0, v1, v2, d0, d1, d2, q0, q1, q2, rfl, rfl, rfl, h0, h1, h2⟩ := trodAll_three hA
  obtain ⟨n0, K0, X0, hp0⟩ := arg_pairs (hval 0 22 v0 rfl rfl) h0 hsz (j := 0) rfl rfl
  obtain ⟨n1, K1, X1, hp1⟩ := arg_pairs (hval 1 22 v1 rfl rfl) h1 hsz (j := 1) rfl rfl
  obtain ⟨n2, K2, X2, hp2⟩ := arg_pairs (hval 2 22 v2 rfl rfl) h2 hsz (j := 2) rfl rfl
  exact law W v0 v1 v2 n0 n1 n2 K0 X0 K1 X1 K2 X2 hp0 hp1 hp2

/-! ### The row -/
theorem plain : Frame.Plain Rows.paxJoinsSpec Try.f3 := by
  refine ⟨rfl, fun H ds h => ?_⟩
  rw [Try.params3] at h
  match ds, h with
  | [_, _, _], _ => rfl
theorem read : ∀ t ∈ Try.f3.params.toList, Try.prog.readableRec t = true ∧ t < Try.prog.types.size := by
  rw [Try.params3]
  intro t ht
  simp at ht
  subst ht
  all_goals exact ⟨by kernel_rfl, of_decide_eq_true (by kernel_rfl)⟩
set_option maxRecDepth 100000 in
theorem over : Rows.paxJoinsRow.holds Try.pinned (OpenSpec.ofChange Rows.paxJoinsSpec) :=
  OpenClaim.holds_of_wide 3 Try.f3 rfl rfl rfl rfl rfl rfl rfl ⟨rfl, rfl, rfl, rfl, rfl⟩ rfl rfl rfl rfl rfl (by kernel_rfl) Try.func3 (by kernel_rfl)
    (of_decide_eq_true (by kernel_rfl)) (by unfold Func.isWrapper; first | (rw [if_pos (by decide +kernel)]; kernel_rfl) | (rw [if_neg (by decide +kernel)]; exact ⟨rfl, rfl⟩))
    (fun os started H enc _ => Frame.lifted Try.func3 (by kernel_rfl) plain (by kernel_rfl) read walk os started H enc
      (ChangeSpec.witness6 (enc := enc) (C := Try.checked) false ⟨#[], #[.slice none 0 0, .slice none 0 0, .slice none 0 0], []⟩ 8 (by kernel_rfl) (by kernel_rfl) (by kernel_rfl) (by kernel_rfl)))

theorem paxJoins_holds : Rows.PaxJoinsSaid := over
#print axioms paxJoins_holds
end Go.Proofs.Ytnnoeckmkjhdbaa.paxJoins
