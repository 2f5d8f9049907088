/-
  Glob of the reference and Match of the program: both answer with one value and one error. No conditions but bounds.
-/
import Derived.Test.YtnnoeckmkjhdbaaDoorGlX
import Derived.Test.YtnnoeckmkjhdbaaDoorGlZ
import Derived.Test.YtnnoeckmkjhdbaaDoorGlI
import Derived.Test.YtnnoeckmkjhdbaaDoorGlP
import Derived.Test.YtnnoeckmkjhdbaaDoorBare
namespace Go.Proofs.YtnnoeckmkjhdbaaDoor
open Go.RowKit Go.PlainAid

/-- The error and the answer. -/
def gmE (p n : ByteArray) : Int := if 120 < p.size ∨ 120 < n.size then 4 else if (parseV p).isSome = true then 0 else 3
def gmV (p n : ByteArray) : Bool := if 120 < p.size ∨ 120 < n.size then false else ansV p n
theorem isV_eq (p : ByteArray) : isV p = (parseV p).isSome := (parse_is (p.size + 1) p (Nat.lt_succ_self _)).symm
theorem parseV_len : ∀ (m : Nat) (s : ByteArray), s.size < m → ∀ l, parseV s = some l → l.length ≤ s.size
  | 0, _, h, _, _ => absurd h (Nat.not_lt_zero _)
  | m + 1, s, h, l, hl => by
    by_cases h0 : s.size = 0
    · rw [parseV_nil h0 hl]
      exact Nat.zero_le _
    · obtain ⟨t, r, l', _, h2, rfl, h3, _⟩ := parseV_cons h0 hl
      have := parseV_len m r (by omega) l' h2
      rw [List.length_cons]
      omega
theorem toksC_len : ∀ l : List Tok, (toksC l).length = l.length * 258
  | [] => rfl
  | t :: l => by
    have e : toksC (t :: l) = (tokRow t.many t.deep t.set).toList ++ toksC l := by
      unfold toksC
      rw [List.flatMap_cons]
    rw [e, List.length_append, toksC_len l, Array.length_toList, tokRow_size, List.length_cons]
    omega
theorem toksC_at : ∀ (l : List Tok) (k i : Nat) (hk : k < l.length), i < 258 → (toksC l)[k * 258 + i]? = (tokRow l[k].many l[k].deep l[k].set).toList[i]?
  | [], k, _, hk, _ => absurd hk (Nat.not_lt_zero _)
  | t :: l, k, i, hk, hi => by
    have e : toksC (t :: l) = (tokRow t.many t.deep t.set).toList ++ toksC l := by
      unfold toksC
      rw [List.flatMap_cons]
    have hz : (tokRow t.many t.deep t.set).toList.length = 258 := by rw [Array.length_toList, tokRow_size]
    rw [e]
    cases k with
    | zero =>
      rw [List.getElem?_append_left (by rw [hz]; omega)]
      simp
    | succ k =>
      rw [List.getElem?_append_right (by rw [hz]; omega), hz]
      have := toksC_at l k i (by simpa using hk) hi
      rw [show (k + 1) * 258 + i - 258 = k * 258 + i by omega, this]
      rfl
/-- The tokens, each in its place. -/
theorem own_toks {w : World} {base : Nat} {v : Value} {l : List Tok} (h : w.ownsRow base 52 258 v l.length (toksC l)) : ∃ oa cap, v = .slice oa l.length cap ∧
    ∀ k (hk : k < l.length), ∃ g, oa = some ⟨g, 0, none⟩ ∧ g < w.heap.size ∧ w.rangeAt g (k * 258) (tokRow l[k].many l[k].deep l[k].set).toList := by
  obtain ⟨oa, cap, rfl⟩ := own_openG h
  refine ⟨oa, cap, rfl, fun k hk => ?_⟩
  have hl := h
  obtain ⟨_, ⟨hv, hn⟩ | ⟨g, cap', cur, hv, hb, hh, hn, hm, hs, ht⟩⟩ := h
  · omega
  · simp only [Value.slice.injEq] at hv
    obtain ⟨rfl, _, rfl⟩ := hv
    refine ⟨g, rfl, (Array.getElem?_eq_some_iff.1 hh).1, fun i v hi => ?_⟩
    have h258 : i < 258 := by
      rcases Nat.lt_or_ge i 258 with h | h
      · exact h
      · rw [List.getElem?_eq_none (by rw [Array.length_toList, tokRow_size]; exact h)] at hi
        cases hi
    have h3 : (k + 1) * 258 ≤ l.length * 258 := Nat.mul_le_mul_right 258 hk
    rw [hl.cellAt (k * 258 + i) (by omega), toksC_at l k i hk h258, hi]

set_option maxHeartbeats 1600000 in
set_option maxRecDepth 100000 in
theorem globMatch_any (p n : ByteArray) (hp : p.size ≤ 1000) (hn : n.size ≤ 1000) (w : World) : Calls Tryd.prog 5 #[.string p, .string n] w fun x w' => x = .returned (.tuple #[.bool (gmV p n), errOf (gmE p n)]) ∧ Ext w w' := by
  by_cases h : 120 < p.size ∨ 120 < n.size
  · have e1 : Hid (gmV p n = false) := Lib.hid (by unfold gmV; rw [if_pos h])
    have e2 : Hid (errOf (gmE p n) = .iface 22 (.int .i64 4)) := Lib.hid (by unfold gmE; rw [if_pos h]; rfl)
    by_cases h1 : 120 < p.size
    · have q1 : decide ((120 : Int) < (p.size : Int)) = true := decide_eq_true (by omega)
      clear h h1
      go_enter Tryd.func5, Tryd.ntmps5
      go_wp2_with fail
      go_ret2
      exact ⟨ret_val (by rw [e1.out, e2.out]; rfl), (by show Below _ _ _; repeat' (first | (with_reducible exact Below.refl _ _) | (with_reducible assumption) | (with_reducible refine belowDrewN ?_ _) | (with_reducible refine Below.alloc ?_ ?_ _) | (with_reducible refine Below.drew ?_) | (with_reducible refine Below.setCell ?_ ?_ _) | go_size))⟩
    · have q1 : decide ((120 : Int) < (p.size : Int)) = false := decide_eq_false (by omega)
      have q2 : decide ((120 : Int) < (n.size : Int)) = true := decide_eq_true (by omega)
      clear h h1
      go_enter Tryd.func5, Tryd.ntmps5
      go_wp2_with fail
      go_ret2
      exact ⟨ret_val (by rw [e1.out, e2.out]; rfl), (by show Below _ _ _; repeat' (first | (with_reducible exact Below.refl _ _) | (with_reducible assumption) | (with_reducible refine belowDrewN ?_ _) | (with_reducible refine Below.alloc ?_ ?_ _) | (with_reducible refine Below.drew ?_) | (with_reducible refine Below.setCell ?_ ?_ _) | go_size))⟩
  · have q1 : decide ((120 : Int) < (p.size : Int)) = false := decide_eq_false (by omega)
    have q2 : decide ((120 : Int) < (n.size : Int)) = false := decide_eq_false (by omega)
    have CP := Lib.hid (glParse_any p (by omega) w)
    have H := Lib.hid h
    have hnn : n.size ≤ 100000 := by omega
    have hpp := Lib.hid hp
    clear h hp hn
    go_enter Tryd.func5, Tryd.ntmps5
    go_wp2_with fail
    refine CP.out.mono ?_; rintro x w1 ⟨v, ok, rfl, hx1, hcase⟩
    have HC := Lib.hid hcase
    clear hcase
    cases ok with
    | false =>
      have hnone : parseV p = none := by
        rcases HC.out with ⟨h1, _⟩ | ⟨_, _, h2, _⟩
        · exact h1
        · cases h2
      have e1 : Hid (gmV p n = false) := Lib.hid (by unfold gmV; rw [if_neg H.out]; unfold ansV; rw [hnone])
      have e2 : Hid (errOf (gmE p n) = .iface 22 (.int .i64 3)) := Lib.hid (by unfold gmE; rw [if_neg H.out, hnone]; rfl)
      clear hnone
      go_wp2_with fail
      go_ret2
      exact ⟨ret_val (by rw [e1.out, e2.out]; rfl), hx1⟩
    | true =>
      obtain ⟨l, hsome, hO⟩ : ∃ l, parseV p = some l ∧ w1.ownsRow (w.heap.size + 1) 52 258 v l.length (toksC l) := by
        rcases HC.out with ⟨_, h1⟩ | ⟨l, h1, _, h2⟩
        · cases h1
        · exact ⟨l, h1, h2⟩
      obtain ⟨oa, cap, rfl, hat⟩ := own_toks hO
      have hll := parseV_len (p.size + 1) p (Nat.lt_succ_self _) l hsome
      have CM := Lib.hid (matches_any l n hnn oa cap w1 (by have := hpp.out; omega) hat)
      have e1 : Hid (gmV p n = reachV l n (fun i => i == 0) n.size) := Lib.hid (by
        unfold gmV
        rw [if_neg H.out, ans_is hsome, match_same]
        rfl)
      have e2 : Hid (errOf (gmE p n) = .nilIface) := Lib.hid (by unfold gmE; rw [if_neg H.out, hsome]; rfl)
      clear hsome hO hat hll
      go_wp2_with fail
      refine CM.out.mono ?_; rintro x w2 ⟨rfl, hx2⟩
      go_wp2_with fail
      go_ret2
      exact ⟨ret_val (by rw [e1.out, e2.out]; rfl), hx1.trans hx2⟩

set_option maxHeartbeats 1600000 in
set_option maxRecDepth 100000 in
theorem refGlob_any (p n : ByteArray) (hp : p.size ≤ 1000) (hn : n.size ≤ 1000) (w : World) : Calls Tryd.prog 4 #[.string p, .string n] w fun x w' => x = .returned (.tuple #[.bool (gmV p n), .int .i64 (gmE p n)]) ∧ Ext w w' := by
  by_cases h : 120 < p.size ∨ 120 < n.size
  · have e1 : Hid (gmV p n = false) := Lib.hid (by unfold gmV; rw [if_pos h])
    have e2 : Hid (gmE p n = 4) := Lib.hid (by unfold gmE; rw [if_pos h])
    by_cases h1 : 120 < p.size
    · have q1 : decide ((120 : Int) < (p.size : Int)) = true := decide_eq_true (by omega)
      clear h h1
      go_enter Tryd.func4, Tryd.ntmps4
      go_wp2_with fail
      go_ret2
      exact ⟨ret_val (by rw [e1.out, e2.out]; rfl), (by show Below _ _ _; repeat' (first | (with_reducible exact Below.refl _ _) | (with_reducible assumption) | (with_reducible refine belowDrewN ?_ _) | (with_reducible refine Below.alloc ?_ ?_ _) | (with_reducible refine Below.drew ?_) | (with_reducible refine Below.setCell ?_ ?_ _) | go_size))⟩
    · have q1 : decide ((120 : Int) < (p.size : Int)) = false := decide_eq_false (by omega)
      have q2 : decide ((120 : Int) < (n.size : Int)) = true := decide_eq_true (by omega)
      clear h h1
      go_enter Tryd.func4, Tryd.ntmps4
      go_wp2_with fail
      go_ret2
      exact ⟨ret_val (by rw [e1.out, e2.out]; rfl), (by show Below _ _ _; repeat' (first | (with_reducible exact Below.refl _ _) | (with_reducible assumption) | (with_reducible refine belowDrewN ?_ _) | (with_reducible refine Below.alloc ?_ ?_ _) | (with_reducible refine Below.drew ?_) | (with_reducible refine Below.setCell ?_ ?_ _) | go_size))⟩
  · have q1 : decide ((120 : Int) < (p.size : Int)) = false := decide_eq_false (by omega)
    have q2 : decide ((120 : Int) < (n.size : Int)) = false := decide_eq_false (by omega)
    have CI := Lib.hid (fun w => globIs_any p (by omega) w)
    have H := Lib.hid h
    have HPN := Lib.hid (And.intro hp hn)
    rw [isV_eq] at CI
    clear h hp hn
    cases hv : (parseV p).isSome with
    | false =>
      have e1 : Hid (gmV p n = false) := Lib.hid (by
        unfold gmV
        rw [if_neg H.out]
        unfold ansV
        cases h2 : parseV p with
        | none => rfl
        | some l => rw [h2] at hv; cases hv)
      have e2 : Hid (gmE p n = 3) := Lib.hid (by unfold gmE; rw [if_neg H.out, hv]; rfl)
      rw [hv] at CI
      clear hv
      go_enter Tryd.func4, Tryd.ntmps4
      go_wp2_with fail
      refine (CI.out _).mono ?_; rintro x w1 ⟨rfl, hx1⟩
      go_wp2_with fail
      go_ret2
      exact ⟨ret_val (by rw [e1.out, e2.out]; rfl), hx1⟩
    | true =>
      have e1 : Hid (gmV p n = ansV p n) := Lib.hid (by unfold gmV; rw [if_neg H.out])
      have e2 : Hid (gmE p n = 0) := Lib.hid (by unfold gmE; rw [if_neg H.out, hv]; rfl)
      have hva : valV p := hv
      have CA := Lib.hid (fun w => globAll_any p n HPN.out.1 HPN.out.2 w.heap.size (p.size + n.size + 1) p n (Nat.lt_succ_self _) (sufOf_refl p) (sufOf_refl n) hva _ _ (MemoS.start (P := p) (N := n) w))
      rw [hv] at CI
      have hmm := @run_makeMap Tryd.prog
      clear hv hva
      go_enter Tryd.func4, Tryd.ntmps4
      go_wp2_with fail
      refine (CI.out _).mono ?_; rintro x w1 ⟨rfl, hx1⟩
      go_wp2_with fail
      refine (CA.out _).mono ?_; rintro x w2 ⟨rfl, hS2⟩
      have hx2 : Ext w1 w2 := hS2.2.ext ((Ext.refl w1).alloc _) (fun i hi => by rw [hi]; exact Nat.le_refl _)
      clear hS2
      go_wp2_with fail
      go_ret2
      exact ⟨ret_val (by rw [e1.out, e2.out]; rfl), hx1.trans hx2⟩
end Go.Proofs.YtnnoeckmkjhdbaaDoor
