/-
  number.Write and the reference's NumberWrite: a number in a field, in either way.
-/
import Derived.Test.YtbofobakphlpbaaGreatDoorOct
import Derived.LaidEql
namespace Go.Proofs.YtbofobakphlpbaaGreatDoor
open Go.RowKit Go.PlainAid

/-- '==' between an error and an Errno. -/
theorem run_equalIn_errno (w : World) (d : Nat) (a b : Int) : (Op.equalIn (d + 2) 29 (.iface 23 (.int .i64 a)) (.iface 23 (.int .i64 b))).run Tryz.prog w = .ok (a == b) w := by
  obtain ⟨i, hinfo, hcomp⟩ : ∃ i, Tryz.prog.info? 23 = some i ∧ i.comparable = true := by
    have h : (Tryz.prog.info? 23).map (·.comparable) = some true := by kernel_rfl
    obtain ⟨i, h1, h2⟩ := Option.map_eq_some_iff.1 h
    exact ⟨i, h1, h2⟩
  simp [Op.equalIn, run_underlying Tryz.underlying29, run_underlying Tryz.underlying23, typeInfo, hinfo, hcomp]
theorem eqlErr (k e : Int) (w : World) (he : e ≠ 0) : (binOp .eql 29 (errOf k) (.iface 23 (.int .i64 e))).run Tryz.prog w = .ok (.bool (k == e)) w := by
  unfold errOf
  split
  · rename_i h
    subst h
    rw [run_eql_iface_nil_left w 23 (.int .i64 e) Tryz.underlying29]
    have : (0 == e) = false := by rw [beq_eq_false_iff_ne]; exact fun h => he h.symm
    rw [this]
  · simp only [binOp]
    simp [Op.equal, Op.maxDepth, run_equalIn_errno w 9998 k e]

theorem eqlGuard (k e : Int) (a b : Operand) (w : World) : (eqGuard .eql 29 a b (errOf k) (.iface 23 (.int .i64 e))).run Tryz.prog w = .ok () w := by
  unfold errOf
  split <;> simp [eqGuard]

/-- number.Binary's three ways, with the text's length. -/
theorem binary_ways2 (n W : Int) (hn1 : -9223372036854775808 ≤ n) (hn2 : n ≤ 9223372036854775807) : ∃ (s : ByteArray) (k : Int), s.size ≤ 20 ∧ (k = 0 → (s.size : Int) = W) ∧
    (∀ w, Calls Tryz.prog 96 #[.int .i64 n, .int .i64 W] w fun e w' => e = .returned (.tuple #[.string s, errOf k]) ∧ Ext w w') ∧
    (∀ w, Calls Tryz.prog 93 #[.int .i64 n, .int .i64 W] w fun e w' => e = .returned (.tuple #[.string s, .int .i64 k]) ∧ Ext w w') := by
  by_cases h : W < 8 ∨ 20 < W
  · exact ⟨⟨#[]⟩, 1, by decide, fun h => absurd h (by decide), fun w => binary_arg n W w h, fun w => refBinary_arg n W w h⟩
  · by_cases h8 : W = 8 ∧ (n < -36028797018963968 ∨ 36028797018963967 < n)
    · obtain ⟨rfl, h8⟩ := h8
      exact ⟨⟨#[]⟩, 2, by decide, fun h => absurd h (by decide), fun w => binary_range n w h8, fun w => refBinary_range n w h8⟩
    · obtain ⟨W, rfl⟩ := Int.eq_ofNat_of_zero_le (show 0 ≤ W by omega)
      have hz : (binV n W).size = W := by
        show (topU n :: low n (W - 1)).toArray.size = W
        simp [low_length]; omega
      exact ⟨binV n W, 0, by omega, fun _ => by omega, fun w => binary_good n W w (by omega) (by omega) (by omega), fun w => refBinary_good n W w (by omega) (by omega) (by omega) hn1 hn2⟩

set_option maxHeartbeats 1600000 in
set_option maxRecDepth 100000 in
theorem write_ways2 (n W : Int) (b : Bool) (hn1 : -9223372036854775808 ≤ n) (hn2 : n ≤ 9223372036854775807) : ∃ (s : ByteArray) (k : Int), s.size ≤ 20 ∧ (k = 0 → (s.size : Int) = W) ∧ (octE n W = 0 → k = 0) ∧
    (∀ w, Calls Tryz.prog 63 #[.int .i64 n, .int .i64 W, .bool b] w fun e w' => e = .returned (.tuple #[.string s, errOf k]) ∧ Ext w w') ∧
    (∀ w, Calls Tryz.prog 57 #[.int .i64 n, .int .i64 W, .bool b] w fun e w' => e = .returned (.tuple #[.string s, .int .i64 k]) ∧ Ext w w') := by
  have C1 := Lib.hid (fun w => octal_any n W hn2 w)
  have C2 := Lib.hid (fun w => refOctal_any n W hn2 w)
  have hos := octS_le n W
  have hoz := octS_size n W
  have Q := fun w => eqlErr (octE n W) 2 w (by decide)
  have G := fun a b w => eqlGuard (octE n W) 2 a b w
  obtain ⟨s, k, hs, hk, c3, c4⟩ := binary_ways2 n W hn1 hn2
  have C3 := Lib.hid c3
  have C4 := Lib.hid c4
  clear c3 c4
  generalize octE n W = x at *
  generalize octS n W = t at *
  generalize hE : errOf x = ex at *
  have HE := Lib.hid hE
  clear hE
  by_cases hb : x = 2 ∧ b = true ∧ 8 ≤ W
  · obtain ⟨rfl, rfl, h8⟩ := hb
    refine ⟨s, k, hs, hk, fun h => absurd h (by decide), fun w => ?_, fun w => ?_⟩
    · go_enter Tryz.func63, Tryz.ntmps63
      go_wp2_with fail
      refine (C1.out _).mono ?_; rintro e w1 ⟨rfl, hx1⟩
      go_wp2_with fail
      refine (C3.out _).mono ?_; rintro e w2 ⟨rfl, hx2⟩
      go_wp2_with fail
      go_ret2
      exact ⟨rfl, hx1.trans hx2⟩
    · go_enter Tryz.func57, Tryz.ntmps57
      go_wp2_with fail
      refine (C2.out _).mono ?_; rintro e w1 ⟨rfl, hx1⟩
      go_wp2_with fail
      refine (C4.out _).mono ?_; rintro e w2 ⟨rfl, hx2⟩
      go_wp2_with fail
      go_ret2
      exact ⟨rfl, hx1.trans hx2⟩
  · refine ⟨t, x, hos, hoz, fun h => h, fun w => ?_, fun w => ?_⟩
    · rw [HE.out]
      rcases (show (x == 2) = false ∨ ((x == 2) = true ∧ b = false) ∨ ((x == 2) = true ∧ b = true ∧ decide (8 ≤ W) = false) by
        cases h1 : x == 2 with
        | false => exact .inl rfl
        | true =>
          cases b with
          | false => exact .inr (.inl ⟨rfl, rfl⟩)
          | true => exact .inr (.inr ⟨rfl, rfl, decide_eq_false fun h => hb ⟨by simpa using h1, rfl, h⟩⟩)) with q1 | ⟨q1, rfl⟩ | ⟨q1, rfl, q2⟩
      all_goals
        clear hb
        go_enter Tryz.func63, Tryz.ntmps63
        go_wp2_with fail
        refine (C1.out _).mono ?_; rintro e w1 ⟨rfl, hx1⟩
        go_wp2_with fail
        go_ret2
        exact ⟨rfl, hx1⟩
    · rcases (show (x == 2) = false ∨ ((x == 2) = true ∧ b = false) ∨ ((x == 2) = true ∧ b = true ∧ decide (8 ≤ W) = false) by
        cases h1 : x == 2 with
        | false => exact .inl rfl
        | true =>
          cases b with
          | false => exact .inr (.inl ⟨rfl, rfl⟩)
          | true => exact .inr (.inr ⟨rfl, rfl, decide_eq_false fun h => hb ⟨by simpa using h1, rfl, h⟩⟩)) with q1 | ⟨q1, rfl⟩ | ⟨q1, rfl, q2⟩
      all_goals
        clear hb
        go_enter Tryz.func57, Tryz.ntmps57
        go_wp2_with fail
        refine (C2.out _).mono ?_; rintro e w1 ⟨rfl, hx1⟩
        go_wp2_with fail
        go_ret2
        exact ⟨rfl, hx1⟩
theorem write_ways (n W : Int) (b : Bool) (hn1 : -9223372036854775808 ≤ n) (hn2 : n ≤ 9223372036854775807) : ∃ (s : ByteArray) (k : Int), s.size ≤ 20 ∧ (k = 0 → (s.size : Int) = W) ∧
    (∀ w, Calls Tryz.prog 63 #[.int .i64 n, .int .i64 W, .bool b] w fun e w' => e = .returned (.tuple #[.string s, errOf k]) ∧ Ext w w') ∧
    (∀ w, Calls Tryz.prog 57 #[.int .i64 n, .int .i64 W, .bool b] w fun e w' => e = .returned (.tuple #[.string s, .int .i64 k]) ∧ Ext w w') :=
  have ⟨s, k, h1, h2, _, h3, h4⟩ := write_ways2 n W b hn1 hn2
  ⟨s, k, h1, h2, h3, h4⟩
end Go.Proofs.YtbofobakphlpbaaGreatDoor
