/-
  The reference's HeadWrite: its two closures.
-/
import Derived.RangeFuncBox
import Derived.Test.YtbofobakphlpbaaGreatDoorHeadS
import Derived.Test.YtbofobakphlpbaaGreatDoorParts
import Derived.Test.YtbofobakphlpbaaGreatDoorWrite
import Derived.Test.YtbofobakphlpbaaGreatDoorPutRef
namespace Go.Proofs.YtbofobakphlpbaaGreatDoor
open Go.RowKit Go.WideShapes

/-- Has the text a zero byte? -/
def zeroB (s : ByteArray) : Bool := decide (0 ≤ Lib.indexByte s.data.toList 0)
def fitS (s : ByteArray) (W : Nat) : Bool := !(decide ((W : Int) < (s.size : Int)) || zeroB s)
/-- The text in its field. -/
def padV (s : ByteArray) (W : Nat) : ByteArray := s ++ ⟨(List.replicate (W - s.size) (0 : UInt8)).toArray⟩
theorem hasZero_any (s : ByteArray) (hs : s.size ≤ 100000) (w : World) (hm : HasMax w) : Calls Tryz.prog 54 #[.string s, .string ⟨#[0]⟩] w fun e w' => e = .returned (.bool (zeroB s)) ∧ Ext w w' := by
  obtain ⟨m, hm⟩ := hm
  refine (Tryz.strings_Contains s ⟨#[0]⟩ m w (by omega) hm).mono fun e w' h => ?_
  have e1 : Lib.contains s.data.toList (⟨#[0]⟩ : ByteArray).data.toList = zeroB s := by
    show decide (0 ≤ Lib.index s.data.toList [0]) = _
    rw [Lib.index_one]
    rfl
  rw [e1] at h
  exact ⟨h.1, by rw [h.2]; exact Ext.refl _⟩

theorem below_le {w w' : World} {B C : Nat} (h : B ≤ C) (hb : Below C w w') : Below B w w' := ⟨hb.os, hb.tape, hb.output, hb.size, fun b hlt => hb.block b (Nat.lt_of_lt_of_le hlt h)⟩

set_option maxHeartbeats 1600000 in
set_option maxRecDepth 100000 in
theorem pad_any (s : ByteArray) (W B : Nat) (q : Bool) (w : World) (hs : s.size ≤ 100000) (hW : W ≤ 1000) (hm : HasMax w) (hb : Boxed w B 4 (.bool q)) :
    Calls Tryz.prog 53 #[.string s, .int .i64 (W : Int), .pointer (some ⟨B, 0, none⟩)] w fun e w' => e = .returned (.string (if fitS s W then padV s W else ⟨#[]⟩)) ∧ Boxed w' B 4 (.bool (q && fitS s W)) ∧ Below B w w' := by
  have C1 := Lib.hid (hasZero_any s hs w hm)
  have hd : Hid (fitS s W = !(decide ((W : Int) < (s.size : Int)) || zeroB s)) := Lib.hid rfl
  have hc := hb.cell
  have hf := hb.frozen
  have hl := hb.lt
  have hbs : Boxed (w.setCell ⟨B, 0, none⟩ (.bool false)) B 4 (.bool false) := hb.set _
  have hbl : Below B w (w.setCell ⟨B, 0, none⟩ (.bool false)) := (Below.refl B w).setCell (p := ⟨B, 0, none⟩) (Nat.le_refl B) _
  by_cases h : (W : Int) < (s.size : Int)
  · have hq : decide ((W : Int) < (s.size : Int)) = true := decide_eq_true h
    have e1 : Hid (fitS s W = false) := Lib.hid (by rw [hd.out, hq]; rfl)
    rw [e1.out, Bool.and_false, if_neg (by decide)]
    go_enter Tryz.func53, Tryz.ntmps53
    go_wp2_with fail
    go_ret
    exact ⟨rfl, hbs, hbl⟩
  · have hq : decide ((W : Int) < (s.size : Int)) = false := decide_eq_false h
    have C3 := Lib.hid (fun w => rep0 (W - s.size) (by omega) w)
    rw [show ((W - s.size : Nat) : Int) = (W : Int) - (s.size : Int) by omega] at C3
    cases hz : zeroB s with
    | true =>
      have e1 : Hid (fitS s W = false) := Lib.hid (by rw [hd.out, hq, hz]; rfl)
      rw [hz] at C1
      rw [e1.out, Bool.and_false, if_neg (by decide)]
      go_enter Tryz.func53, Tryz.ntmps53
      go_wp2_with fail
      refine C1.out.mono ?_; rintro e w1 ⟨rfl, hx1⟩
      have hb1 : Boxed w1 B 4 (.bool q) := (hx1.block B hl).trans hb
      have hc1 := hb1.cell
      have hf1 := hb1.frozen
      have hl1 := hb1.lt
      go_wp2_with fail
      go_ret
      exact ⟨rfl, hb1.set _, (below_le (Nat.le_of_lt hl) hx1).setCell (p := ⟨B, 0, none⟩) (Nat.le_refl B) _⟩
    | false =>
      have e1 : Hid (fitS s W = true) := Lib.hid (by rw [hd.out, hq, hz]; rfl)
      rw [hz] at C1
      rw [e1.out, Bool.and_true, if_pos rfl]
      have hp : Hid (padV s W = s ++ ⟨(List.replicate (W - s.size) (0 : UInt8)).toArray⟩) := Lib.hid rfl
      go_enter Tryz.func53, Tryz.ntmps53
      go_wp2_with fail
      refine C1.out.mono ?_; rintro e w1 ⟨rfl, hx1⟩
      go_wp2_with fail
      refine (C3.out _).mono ?_; rintro e w2 ⟨rfl, hx2⟩
      have hz2 : (⟨(List.replicate (W - s.size) (0 : UInt8)).toArray⟩ : ByteArray).size ≤ 1000 := by
        show (List.replicate (W - s.size) (0 : UInt8)).toArray.size ≤ 1000
        simp; omega
      generalize (⟨(List.replicate (W - s.size) (0 : UInt8)).toArray⟩ : ByteArray) = R at *
      go_wp2_with fail
      go_ret
      exact ⟨ret_val (by rw [hp.out]; rfl), ((hx1.trans hx2).block B hl).trans hb, below_le (Nat.le_of_lt hl) (hx1.trans hx2)⟩
set_option maxHeartbeats 1600000 in
set_option maxRecDepth 100000 in
theorem num_any (n W f k : Int) (t : ByteArray) (A B : Nat) (q : Bool) (w : World) (ha : Boxed w A 3 (.int .i64 f)) (hb : Boxed w B 4 (.bool q))
    (C1 : ∀ w, Calls Tryz.prog 57 #[.int .i64 n, .int .i64 W, .bool (f == 3)] w fun e w' => e = .returned (.tuple #[.string t, .int .i64 k]) ∧ Ext w w') :
    Calls Tryz.prog 56 #[.int .i64 n, .int .i64 W, .pointer (some ⟨A, 0, none⟩), .pointer (some ⟨B, 0, none⟩)] w fun e w' => e = .returned (.string t) ∧ Boxed w' B 4 (.bool (q && (k == 0))) ∧ Below B w w' := by
  have C2 := Lib.hid C1
  clear C1
  have ha0 := ha.cell
  have hl := hb.lt
  cases q with
  | true =>
    rw [Bool.true_and]
    go_enter Tryz.func56, Tryz.ntmps56
    go_wp2_with fail
    refine (C2.out _).mono ?_; rintro e w1 ⟨rfl, hx1⟩
    have hb1 : Boxed w1 B 4 (.bool true) := (hx1.block B hl).trans hb
    have hc1 := hb1.cell
    have hf1 := hb1.frozen
    have hl1 := hb1.lt
    go_wp2_with fail
    go_ret
    exact ⟨rfl, hb1.set _, (below_le (Nat.le_of_lt hl) hx1).setCell (p := ⟨B, 0, none⟩) (Nat.le_refl B) _⟩
  | false =>
    rw [Bool.false_and]
    go_enter Tryz.func56, Tryz.ntmps56
    go_wp2_with fail
    refine (C2.out _).mono ?_; rintro e w1 ⟨rfl, hx1⟩
    have hb1 : Boxed w1 B 4 (.bool false) := (hx1.block B hl).trans hb
    have hc1 := hb1.cell
    have hf1 := hb1.frozen
    have hl1 := hb1.lt
    go_wp2_with fail
    go_ret
    exact ⟨rfl, hb1.set _, (below_le (Nat.le_of_lt hl) hx1).setCell (p := ⟨B, 0, none⟩) (Nat.le_refl B) _⟩
end Go.Proofs.YtbofobakphlpbaaGreatDoor
