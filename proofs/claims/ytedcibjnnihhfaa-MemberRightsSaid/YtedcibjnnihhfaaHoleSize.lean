/-
  Contracts of hole.Size and of the reference's MapSize.
-/
import Derived.Test.YtedcibjnnihhfaaHole
namespace Go.Proofs.Ytedcibjnnihhfaa
open Go.RowKit Go.WideShapes

/-- The sum of the first k sizes, as Go adds them. -/
def sumW (S : Nat → Int) : Nat → Int
  | 0 => 0
  | k + 1 => wrap64 (sumW S k + S k)

theorem holeSize_any (w : World) (v : Value) (n : Nat) (A S : Nat → Int) (h : IsPieces w v n A S) : Calls Try.prog 45 #[v] w fun e w' => e = .returned (.int .i64 (sumW S n)) ∧ Ext w w' := by
  rcases h with ⟨⟨a0, c0, rfl⟩, rfl⟩ | ⟨b, off, cap, rfl, hn, hc⟩
  · go_enter Try.func45, Try.ntmps45
    go_wp2_with fail
    refine wp_loop_rounds 1 ?_
    rw [rounds_succ]
    go_wp2_with fail
    go_ret
    exact ⟨rfl, (by show Below _ _ _; repeat' (first | (with_reducible exact Below.refl _ _) | (with_reducible assumption) | (with_reducible refine belowDrewN ?_ _) | (with_reducible refine Below.alloc ?_ ?_ _) | (with_reducible refine Below.drew ?_) | (with_reducible refine Below.setCell ?_ ?_ _) | go_size))⟩
  · go_enter Try.func45, Try.ntmps45
    go_wp2_with fail
    go_loopw [3, 8] (fun t i wr => ∃ k : Nat, k ≤ n ∧ i = .int .i64 (k : Int) ∧ t = .int .i64 (sumW S k) ∧ Ext w wr) (fun _ i _ => n - (intOf i).toNat)
    case atStart => exact ⟨0, by omega, rfl, rfl, Ext.refl _⟩
    case round =>
      obtain ⟨k, hk, rfl, rfl, hE⟩ := hrel
      by_cases hlt : k < n
      · have g1 := hE.cell (hc k hlt).1
        have g2 := hE.cell (hc k hlt).2
        have hs : Hid (sumW S (k + 1) = wrap64 (sumW S k + S k)) := Lib.hid rfl
        have Hc := Lib.hid hc
        clear hc
        go_wp2_with fail
        go_roundw
        case rel => exact ⟨k + 1, by omega, by go_num, by rw [hs.out], hE.trans (by show Below _ _ _; repeat' (first | (with_reducible exact Below.refl _ _) | (with_reducible assumption) | (with_reducible refine belowDrewN ?_ _) | (with_reducible refine Below.alloc ?_ ?_ _) | (with_reducible refine Below.drew ?_) | (with_reducible refine Below.setCell ?_ ?_ _) | go_size))⟩
        case measure => simp [intOf]; omega
      · obtain rfl : k = n := by omega
        go_wp2_with fail
        go_ret
        exact ⟨rfl, hE⟩

theorem mapSize_any (w : World) (v : Value) (n : Nat) (A S : Nat → Int) (h : IsPieces w v n A S) : Calls Try.prog 37 #[v] w fun e w' => e = .returned (.int .i64 (sumW S n)) ∧ Ext w w' := by
  rcases h with ⟨⟨a0, c0, rfl⟩, rfl⟩ | ⟨b, off, cap, rfl, hn, hc⟩
  · go_enter Try.func37, Try.ntmps37
    go_wp2_with fail
    refine wp_loop_rounds 1 ?_
    rw [rounds_succ]
    go_wp2_with fail
    go_ret
    exact ⟨rfl, (by show Below _ _ _; repeat' (first | (with_reducible exact Below.refl _ _) | (with_reducible assumption) | (with_reducible refine belowDrewN ?_ _) | (with_reducible refine Below.alloc ?_ ?_ _) | (with_reducible refine Below.drew ?_) | (with_reducible refine Below.setCell ?_ ?_ _) | go_size))⟩
  · go_enter Try.func37, Try.ntmps37
    go_wp2_with fail
    go_loopw [3, 8] (fun t i wr => ∃ k : Nat, k ≤ n ∧ i = .int .i64 (k : Int) ∧ t = .int .i64 (sumW S k) ∧ Ext w wr) (fun _ i _ => n - (intOf i).toNat)
    case atStart => exact ⟨0, by omega, rfl, rfl, Ext.refl _⟩
    case round =>
      obtain ⟨k, hk, rfl, rfl, hE⟩ := hrel
      by_cases hlt : k < n
      · have g1 := hE.cell (hc k hlt).1
        have g2 := hE.cell (hc k hlt).2
        have hs : Hid (sumW S (k + 1) = wrap64 (sumW S k + S k)) := Lib.hid rfl
        have Hc := Lib.hid hc
        clear hc
        go_wp2_with fail
        go_roundw
        case rel => exact ⟨k + 1, by omega, by go_num, by rw [hs.out], hE.trans (by show Below _ _ _; repeat' (first | (with_reducible exact Below.refl _ _) | (with_reducible assumption) | (with_reducible refine belowDrewN ?_ _) | (with_reducible refine Below.alloc ?_ ?_ _) | (with_reducible refine Below.drew ?_) | (with_reducible refine Below.setCell ?_ ?_ _) | go_size))⟩
        case measure => simp [intOf]; omega
      · obtain rfl : k = n := by omega
        go_wp2_with fail
        go_ret
        exact ⟨rfl, hE⟩

end Go.Proofs.Ytedcibjnnihhfaa
