/-
  The law ShowSums holds: show.Total returns what the reference returns for any members. No conditions.
-/
import Derived.Test.YtlinhilcjefgmaaTotal
import Derived.Test.YtlinhilcjefgmaaEntArg
import Derived.ChangeKeysEq
namespace Go.Proofs.Ytlinhilcjefgmaa.showSums
open Go.ChangeShapes Go.WideShapes Go.ChangeAt Go.RowKit Go.Joins

theorem infoInt : (Try.prog.info? 3).map (fun i => (i.zero, i.size, i.bytes)) = some (some (.int .i64 0), 1, 8) := by kernel_rfl
theorem cells_int2 : Try.prog.cellsOf 3 = 1 := by kernel_rfl
theorem eql7 (x1 x2 x3 x4 x5 x6 x7 : Int) (w : World) : (Op.equalIn 10000 24 (.agg #[.int .i64 x1, .int .i64 x2, .int .i64 x3, .int .i64 x4, .int .i64 x5, .int .i64 x6, .int .i64 x7]) (.agg #[.int .i64 x1, .int .i64 x2, .int .i64 x3, .int .i64 x4, .int .i64 x5, .int .i64 x6, .int .i64 x7])).run Try.prog w = .ok true w := by
  obtain ⟨i0, hi, _⟩ := info_parts infoInt
  rw [show (10000 : Nat) = 9999 + 1 from rfl, run_equalIn_array w 9999 _ _ Try.underlying24 hi, cells_int2]
  have e : ∀ x : Int, (Op.equalIn 9999 3 (.int .i64 x) (.int .i64 x)).run Try.prog w = .ok true w := fun x => by
    rw [show (9999 : Nat) = 9998 + 1 from rfl, run_equalIn_int w 9998 _ .i64 .i64 _ _ Try.underlying3]; simp
  simp [List.range, List.range.loop, Op.eqItems, part, isAgg, run_underlying Try.underlying3, e]

/-- Between two rounds of the law's own loop. -/
def SumRel (w : World) (b0 n : Nat) (E : Nat → Ent) (s i : Value) (wr : World) : Prop :=
  ∃ k : Nat, k ≤ n ∧ i = .int .i64 (k : Int) ∧ s = .int .i64 (sizE E k) ∧ Seven wr b0 (fun d => cntE E d k) ∧ Ext w wr

set_option maxHeartbeats 4000000 in
set_option maxRecDepth 100000 in
theorem law (w : World) (v : Value) (n : Nat) (E : Nat → Ent) (h : IsEnts w v n E) : Calls Try.prog 3 #[v] w fun x w' => x = .returned (.bool true) ∧ Ext w w' := by
  have C1 := Lib.hid (lots_any w v n E 30 h)
  have C2 := Lib.hid (fun w1 (hE : Ext w w1) => total_any w1 v n E (h.ext hE))
  have hq := Lib.hid (eql7 (cntE E 0 n) (cntE E 1 n) (cntE E 2 n) (cntE E 3 n) (cntE E 4 n) (cntE E 5 n) (cntE E 6 n))
  have hT : Hid (totV E n = .agg #[.int .i64 (cntE E 0 n), .int .i64 (cntE E 1 n), .int .i64 (cntE E 2 n), .int .i64 (cntE E 3 n), .int .i64 (cntE E 4 n), .int .i64 (cntE E 5 n), .int .i64 (cntE E 6 n)]) := Lib.hid rfl
  cases hL : lotsB n E 30 with
  | true =>
    have HL := Lib.hid hL
    clear hL
    go_enter Try.func3, Try.ntmps3
    go_wp2_with fail
    refine C1.out.mono ?_; rintro e w1 ⟨rfl, hx1⟩
    rw [HL.out]
    go_wp2_with fail
    go_ret
    exact ⟨rfl, hx1⟩
  | false =>
    have HL := Lib.hid hL
    clear hL
    rcases h with ⟨⟨a, c, rfl⟩, rfl⟩ | ⟨b, off, cap, rfl, hn, hc⟩
    · go_enter Try.func3, Try.ntmps3
      go_wp2_with fail
      refine C1.out.mono ?_; rintro e w1 ⟨rfl, hx1⟩
      rw [HL.out]
      go_wp2_with fail
      refine wp_loop_rounds 1 ?_
      rw [rounds_succ]
      go_wp2_with fail
      have hS : Seven (w1.alloc (.cells #[.int .i64 0, .int .i64 0, .int .i64 0, .int .i64 0, .int .i64 0, .int .i64 0, .int .i64 0] 24)) w1.heap.size (fun d => cntE E d 0) := ⟨by simp [cntE], by simp⟩
      refine (C2.out _ (hx1.alloc _)).mono ?_; rintro e w2 ⟨rfl, hx2⟩
      rw [hT.out]
      obtain ⟨⟨c0, c1, c2, c3, c4, c5, c6⟩, _⟩ := hS.ext hx2
      have hz2 : w1.heap.size < w2.heap.size := by have := hx2.size; simp at *; omega
      have Q : ∀ W, _ := hq.out
      go_wp2_with fail
      go_ret
      exact ⟨ret_bool (by simp [sizE]), (Ext.trans (hx1.alloc _) hx2).trans (by show Below _ _ _; repeat' (first | (with_reducible exact Below.refl _ _) | (with_reducible assumption) | (with_reducible refine belowDrewN ?_ _) | (with_reducible refine Below.alloc ?_ ?_ _) | (with_reducible refine Below.drew ?_) | (with_reducible refine Below.setCell ?_ ?_ _) | go_size))⟩
    · go_enter Try.func3, Try.ntmps3
      go_wp2_with fail
      refine C1.out.mono ?_; rintro e w1 ⟨rfl, hx1⟩
      rw [HL.out]
      go_wp2_with fail
      go_loopw [4, 5] (fun s i wr => SumRel w w1.heap.size n E s i wr) (fun _ i _ => n - (intOf i).toNat)
      case atStart => exact ⟨0, Nat.zero_le _, rfl, rfl, ⟨by simp [cntE], by simp⟩, hx1.alloc _⟩
      case round =>
        obtain ⟨k, hk, rfl, rfl, hS, hE⟩ := hrel
        have hz := hx1.size
        have hb1 : w1.heap.size < wr.heap.size := World.block_lt_of_cell? wr _ hS.1.1
        by_cases hlt : k < n
        · obtain ⟨ok, hg⟩ := hc k hlt
          have g1 : wr.cell? ⟨b, off + k * 15 + 1, none⟩ = some (.int .u8 (E k).kd) := hE.cell (hg 1 (by omega))
          have g5 : wr.cell? ⟨b, off + k * 15 + 5, none⟩ = some (.int .i64 (E k).sz) := hE.cell (hg 5 (by omega))
          have lb : b < w.heap.size := World.block_lt_of_cell? w _ (hg 1 (by omega))
          have hbb : w1.heap.size ≠ b := by omega
          have Hc := Lib.hid hc
          have hs1 : Hid (sizE E (k + 1) = wrap64 (sizE E k + (E k).sz)) := Lib.hid rfl
          have k0 := ok.kd0
          have k1 := ok.kd1
          clear hc hg
          rcases (show (48 ≤ (E k).kd ∧ (E k).kd ≤ 54) ∨ ((E k).kd < 48 ∨ 54 < (E k).kd) by omega) with hkd | hkd
          · obtain ⟨d, hd, hd6⟩ : ∃ d : Nat, (E k).kd = 48 + (d : Int) ∧ d ≤ 6 := ⟨((E k).kd - 48).toNat, by omega, by omega⟩
            have HS := Lib.hid hS
            have cd := hS.cell d hd6
            have fd := hS.free d hd6
            have l0 := cntE_lo E d k
            have u0 := cntE_hi E d k
            have hno : Hid (∀ i : Int, 0 ≤ i → i ≤ 6 → cntE E i (k + 1) = if i = (d : Int) then cntE E d k + 1 else cntE E i k) := Lib.hid (fun i i0 i1 => by split; subst i; exact cntE_hit (by omega); exact cntE_miss (by omega))
            rw [hd] at g1
            have q1 : decide ((48 : Int) ≤ 48 + (d : Int)) = true := decide_eq_true (by omega)
            have q2 : decide (48 + (d : Int) ≤ 54) = true := decide_eq_true (by omega)
            have e1 : (48 + (d : Int) - 48) = d := by omega
            clear hkd hS hd
            go_wp2_with fail
            go_roundw
            case rel => exact ⟨k + 1, hlt, by go_num, by rw [hs1.out], (HS.out.set d hd6 _).congr hno.out, hE.setCell hz _⟩
            case measure => simp [intOf]; omega
          · have hno : Hid (∀ d : Int, 0 ≤ d → d ≤ 6 → cntE E d (k + 1) = cntE E d k) := Lib.hid (fun d d0 d1 => cntE_miss (by omega))
            have HS := Lib.hid hS
            clear hS
            rcases (show (decide (48 ≤ (E k).kd) = false) ∨ (decide (48 ≤ (E k).kd) = true ∧ decide ((E k).kd ≤ 54) = false) by simp; omega) with q1 | ⟨q1, q2⟩
            all_goals
              clear hkd
              go_wp2_with fail
              go_roundw
              case rel => exact ⟨k + 1, hlt, by go_num, by rw [hs1.out], HS.out.congr hno.out, hE⟩
              case measure => simp [intOf]; omega
        · obtain rfl : k = n := by omega
          go_wp2_with fail
          refine (C2.out _ hE).mono ?_; rintro e w2 ⟨rfl, hx2⟩
          rw [hT.out]
          obtain ⟨⟨c0, c1, c2, c3, c4, c5, c6⟩, _⟩ := hS.ext hx2
          have hz2 : w1.heap.size < w2.heap.size := by have := hx2.size; omega
          have Q : ∀ W, _ := hq.out
          go_wp2_with fail
          go_ret
          exact ⟨ret_bool (by simp), (Ext.trans hE hx2).trans (by show Below _ _ _; repeat' (first | (with_reducible exact Below.refl _ _) | (with_reducible assumption) | (with_reducible refine belowDrewN ?_ _) | (with_reducible refine Below.alloc ?_ ?_ _) | (with_reducible refine Below.drew ?_) | (with_reducible refine Below.setCell ?_ ?_ _) | go_size))⟩


theorem walk : Frame.Walks 3 Try.f3 := by
  intro H enc W base args ds p hval hA hsz
  rw [Try.params3] at hA hval hsz
  obtain ⟨v0, d0, rfl, rfl, h0⟩ := trodAll_one hA
  obtain ⟨n, E, _, _, hE, _⟩ := arg_ents (hval 0 22 v0 rfl rfl) h0 hsz (j := 0) rfl rfl
  exact law W v0 n E hE

/-! ### The row -/
theorem plain : Frame.Plain Rows.showSumsSpec Try.f3 := by
  refine ⟨rfl, fun H ds h => ?_⟩
  rw [Try.params3] at h
  match ds, h with
  | [_], _ => rfl
theorem read : ∀ t ∈ Try.f3.params.toList, Try.prog.readableRec t = true ∧ t < Try.prog.types.size := by
  rw [Try.params3]
  intro t ht
  simp at ht
  subst ht
  all_goals exact ⟨by kernel_rfl, of_decide_eq_true (by kernel_rfl)⟩
set_option maxRecDepth 100000 in
theorem over : Rows.showSumsRow.holds Try.pinned (OpenSpec.ofChange Rows.showSumsSpec) :=
  OpenClaim.holds_of_wide 3 Try.f3 rfl rfl rfl rfl rfl rfl rfl ⟨rfl, rfl, rfl, rfl, rfl⟩ rfl rfl rfl rfl rfl (by kernel_rfl) Try.func3 (by kernel_rfl)
    (of_decide_eq_true (by kernel_rfl)) (by unfold Func.isWrapper; first | (rw [if_pos (by decide +kernel)]; kernel_rfl) | (rw [if_neg (by decide +kernel)]; exact ⟨rfl, rfl⟩))
    (fun os started H enc _ => Frame.lifted Try.func3 (by kernel_rfl) plain (by kernel_rfl) read walk os started H enc
      (ChangeSpec.witness6 (enc := enc) (C := Try.checked) false ⟨#[], #[.slice none 0 0], []⟩ 8 (by kernel_rfl) (by kernel_rfl) (by kernel_rfl) (by kernel_rfl)))

theorem showSums_holds : Rows.ShowSumsSaid := over
#print axioms showSums_holds
end Go.Proofs.Ytlinhilcjefgmaa.showSums
