/-
  Contracts of Named, of the program and of the reference.
-/
import Derived.Test.YtahibbijekfjiaaPath
import Derived.Test.YtahibbijekfjiaaRaw
namespace Go.Proofs.Ytahibbijekfjiaa
open Go.RowKit
variable (nm lk us gr fr : ByteArray) (kd md ui gi sz tm ma mi : Int) (w : World)

theorem ret_vb {x : Value} {a b : Bool} (h : a = b) : Ending.returned (.tuple #[x, .bool a]) = .returned (.tuple #[x, .bool b]) := by rw [h]
theorem bcell {W w1 : World} (h : Ext W w1) : (∀ b o, b < W.heap.size → w1.cell? ⟨b, o, none⟩ = W.cell? ⟨b, o, none⟩) ∧ (∀ b o, b < W.heap.size → w1.frozen? ⟨b, o, none⟩ = W.frozen? ⟨b, o, none⟩) :=
  ⟨fun b o hb => h.cells b o hb, fun b o hb => h.frozens b o hb⟩

theorem named_any (d : Int) (s a b : ByteArray) (c : Bool) (hs : s.size ≤ 4611686018427387900) (hv : splitV s = .tuple #[.string a, .string b, .bool c]) :
    Calls Try.prog 39 #[.agg #[.string nm, .string lk, .string us, .string gr, .string fr, .int .u8 kd, .int .i64 md, .int .i64 ui, .int .i64 gi, .int .i64 sz, .int .i64 tm, .int .i64 ma, .int .i64 mi], .int .i64 d, .string s] w fun e w' => e = .returned (if d = 2 ∨ d = 4 then .tuple #[.agg #[.string b, .string lk, .string us, .string gr, .string a, .int .u8 kd, .int .i64 md, .int .i64 ui, .int .i64 gi, .int .i64 sz, .int .i64 tm, .int .i64 ma, .int .i64 mi], .bool c] else .tuple #[.agg #[.string s, .string lk, .string us, .string gr, .string ⟨#[]⟩, .int .u8 kd, .int .i64 md, .int .i64 ui, .int .i64 gi, .int .i64 sz, .int .i64 tm, .int .i64 ma, .int .i64 mi], .bool (decide (s.size ≤ 100))]) ∧ Ext w w' := by
  have c1 := fun w => split_drawn s hs w
  rw [hv] at c1
  have C1 := Lib.hid c1
  clear c1 hv
  by_cases h : d = 2 ∨ d = 4
  · rw [if_pos h]
    rcases h with rfl | rfl
    all_goals
      go_enter Try.func39, Try.ntmps39
      go_wp2_with fail
      refine (C1.out _).mono ?_; rintro e w1 ⟨rfl, nq, rfl⟩
      go_wp2_with fail
      go_returns
      exact ⟨rfl, (by show Below _ _ _; repeat' (first | (with_reducible exact Below.refl _ _) | (with_reducible assumption) | (with_reducible refine belowDrewN ?_ _) | (with_reducible refine Below.alloc ?_ ?_ _) | (with_reducible refine Below.drew ?_) | (with_reducible refine Below.setCell ?_ ?_ _) | go_size))⟩
  · rw [if_neg h]
    have h2 : (d == 2) = false := by simp; omega
    have h4 : (d == 4) = false := by simp; omega
    go_enter Try.func39, Try.ntmps39
    go_wp2_with fail
    go_returns
    exact ⟨ret_vb (by rw [decide_eq_decide]; omega), (by show Below _ _ _; repeat' (first | (with_reducible exact Below.refl _ _) | (with_reducible assumption) | (with_reducible refine belowDrewN ?_ _) | (with_reducible refine Below.alloc ?_ ?_ _) | (with_reducible refine Below.drew ?_) | (with_reducible refine Below.setCell ?_ ?_ _) | go_size))⟩
theorem refNamed_any (d : Int) (s a b : ByteArray) (c : Bool) (hs : s.size ≤ 4611686018427387900) (hv : splitV s = .tuple #[.string a, .string b, .bool c]) :
    Calls Try.prog 38 #[.agg #[.string nm, .string lk, .string us, .string gr, .string fr, .int .u8 kd, .int .i64 md, .int .i64 ui, .int .i64 gi, .int .i64 sz, .int .i64 tm, .int .i64 ma, .int .i64 mi], .int .i64 d, .string s] w fun e w' => e = .returned (if d = 2 ∨ d = 4 then .tuple #[.agg #[.string b, .string lk, .string us, .string gr, .string a, .int .u8 kd, .int .i64 md, .int .i64 ui, .int .i64 gi, .int .i64 sz, .int .i64 tm, .int .i64 ma, .int .i64 mi], .bool c] else .tuple #[.agg #[.string s, .string lk, .string us, .string gr, .string ⟨#[]⟩, .int .u8 kd, .int .i64 md, .int .i64 ui, .int .i64 gi, .int .i64 sz, .int .i64 tm, .int .i64 ma, .int .i64 mi], .bool (decide (s.size ≤ 100))]) ∧ Ext w w' := by
  have c1 := fun w => refSplit_drawn s hs w
  rw [hv] at c1
  have C1 := Lib.hid c1
  clear c1 hv
  by_cases h : d = 2 ∨ d = 4
  · rw [if_pos h]
    rcases h with rfl | rfl
    all_goals
      go_enter Try.func38, Try.ntmps38
      go_wp2_with fail
      refine (C1.out _).mono ?_; rintro e w1 ⟨rfl, nq, rfl⟩
      go_wp2_with fail
      go_returns
      exact ⟨rfl, (by show Below _ _ _; repeat' (first | (with_reducible exact Below.refl _ _) | (with_reducible assumption) | (with_reducible refine belowDrewN ?_ _) | (with_reducible refine Below.alloc ?_ ?_ _) | (with_reducible refine Below.drew ?_) | (with_reducible refine Below.setCell ?_ ?_ _) | go_size))⟩
  · rw [if_neg h]
    have h2 : (d == 2) = false := by simp; omega
    have h4 : (d == 4) = false := by simp; omega
    go_enter Try.func38, Try.ntmps38
    go_wp2_with fail
    go_returns
    exact ⟨ret_vb (by rw [decide_eq_decide]; omega), (by show Below _ _ _; repeat' (first | (with_reducible exact Below.refl _ _) | (with_reducible assumption) | (with_reducible refine belowDrewN ?_ _) | (with_reducible refine Below.alloc ?_ ?_ _) | (with_reducible refine Below.drew ?_) | (with_reducible refine Below.setCell ?_ ?_ _) | go_size))⟩
end Go.Proofs.Ytahibbijekfjiaa
