/-
  The reference's MapPut.
-/
import Derived.Test.YtnbcbipigiopbaaGreatDoorPkC
import Derived.Test.YtnbcbipigiopbaaGreatDoorHoleMap
import Derived.Test.YtnbcbipigiopbaaGreatDoorShelf
import Derived.Test.YtnbcbipigiopbaaGreatDoorPkA
import Derived.RangeFuncBox
import Derived.Test.YtnbcbipigiopbaaGreatDoorPkB
import Derived.PlainAid
import Derived.Laws.IdiomStrings
import Derived.Laws.CopyOwn
namespace Go.Proofs.YtnbcbipigiopbaaGreatDoor
open Go.RowKit Go.WideShapes

theorem rep0 (c : Nat) (h1 : c ≤ 1000000) (w : World) : Calls Tryz.prog 24 #[.string ⟨#[0]⟩, .int .i64 (c : Int)] w fun e w' => e = .returned (.string ⟨(List.replicate c (0 : UInt8)).toArray⟩) ∧ Ext w w' := by
  have := Tryz.strings_Repeat ⟨#[0]⟩ c w (by omega) (by show 1 * _ ≤ _; omega)
  have e := Lib.repeatL_replicate 0 1 c
  have e2 : Lib.repeatL (⟨#[0]⟩ : ByteArray).data.toList c = List.replicate c 0 := by
    show Lib.repeatL [0] c = _
    rw [show [(0 : UInt8)] = List.replicate 1 0 from rfl, e, Nat.mul_one]
  rw [e2] at this
  exact this

/-- Between two rounds of MapPut. -/
def PutRel2 (d : ByteArray) (n : Nat) (A S : Nat → Int) (w : World) (dv out i : Value) (wr : World) : Prop :=
  ∃ (k : Nat) (t o : ByteArray), k ≤ n ∧ dv = .string t ∧ out = .string o ∧ i = .int .i64 (k : Int) ∧ t.size ≤ 600 ∧ Hid (t.data.toList = d.data.toList.drop (sN S k)) ∧ Hid (o.data.toList = outL d.data.toList A S k) ∧ Ext w wr

end Go.Proofs.YtnbcbipigiopbaaGreatDoor
/-
  The reference's HeadWrite: its two closures.
-/
namespace Go.Proofs.YtnbcbipigiopbaaGreatDoor
open Go.RowKit Go.WideShapes

/-- Has the text a zero byte? -/
def zeroB (s : ByteArray) : Bool := decide (0 ≤ Lib.indexByte s.data.toList 0)
def fitS (s : ByteArray) (W : Nat) : Bool := !(decide ((W : Int) < (s.size : Int)) || zeroB s)
/-- The text in its field. -/
def padV (s : ByteArray) (W : Nat) : ByteArray := s ++ ⟨(List.replicate (W - s.size) (0 : UInt8)).toArray⟩
theorem hasZero_any (s : ByteArray) (hs : s.size ≤ 100000) (w : World) (hm : HasMax w) : Calls Tryz.prog 101 #[.string s, .string ⟨#[0]⟩] w fun e w' => e = .returned (.bool (zeroB s)) ∧ Ext w w' := by
  obtain ⟨m, hm⟩ := hm
  refine (Tryz.strings_Contains s ⟨#[0]⟩ m w (by omega) hm).mono fun e w' h => ?_
  have e1 : Lib.contains s.data.toList (⟨#[0]⟩ : ByteArray).data.toList = zeroB s := by
    show decide (0 ≤ Lib.index s.data.toList [0]) = _
    rw [Lib.index_one]
    rfl
  rw [e1] at h
  exact ⟨h.1, by rw [h.2]; exact Ext.refl _⟩

theorem below_le {w w' : World} {B C : Nat} (h : B ≤ C) (hb : Below C w w') : Below B w w' := ⟨hb.os, hb.tape, hb.output, hb.size, fun b hlt => hb.block b (Nat.lt_of_lt_of_le hlt h)⟩

set_option maxHeartbeats 1600000 in
set_option maxRecDepth 100000 in
theorem pad_any (s : ByteArray) (W B : Nat) (q : Bool) (w : World) (hs : s.size ≤ 100000) (hW : W ≤ 1000) (hm : HasMax w) (hb : Boxed w B 4 (.bool q)) :
    Calls Tryz.prog 100 #[.string s, .int .i64 (W : Int), .pointer (some ⟨B, 0, none⟩)] w fun e w' => e = .returned (.string (if fitS s W then padV s W else ⟨#[]⟩)) ∧ Boxed w' B 4 (.bool (q && fitS s W)) ∧ Below B w w' := by
  have C1 := Lib.hid (hasZero_any s hs w hm)
  have hd : Hid (fitS s W = !(decide ((W : Int) < (s.size : Int)) || zeroB s)) := Lib.hid rfl
  have hc := hb.cell
  have hf := hb.frozen
  have hl := hb.lt
  have hbs : Boxed (w.setCell ⟨B, 0, none⟩ (.bool false)) B 4 (.bool false) := hb.set _
  have hbl : Below B w (w.setCell ⟨B, 0, none⟩ (.bool false)) := (Below.refl B w).setCell (p := ⟨B, 0, none⟩) (Nat.le_refl B) _
  by_cases h : (W : Int) < (s.size : Int)
  · have hq : decide ((W : Int) < (s.size : Int)) = true := decide_eq_true h
    have e1 : Hid (fitS s W = false) := Lib.hid (by rw [hd.out, hq]; rfl)
    rw [e1.out, Bool.and_false, if_neg (by decide)]
    go_enter Tryz.func100, Tryz.ntmps100
    go_wp2_with fail
    go_ret
    exact ⟨rfl, hbs, hbl⟩
  · have hq : decide ((W : Int) < (s.size : Int)) = false := decide_eq_false h
    have C3 := Lib.hid (fun w => rep0 (W - s.size) (by omega) w)
    rw [show ((W - s.size : Nat) : Int) = (W : Int) - (s.size : Int) by omega] at C3
    cases hz : zeroB s with
    | true =>
      have e1 : Hid (fitS s W = false) := Lib.hid (by rw [hd.out, hq, hz]; rfl)
      rw [hz] at C1
      rw [e1.out, Bool.and_false, if_neg (by decide)]
      go_enter Tryz.func100, Tryz.ntmps100
      go_wp2_with fail
      refine C1.out.mono ?_; rintro e w1 ⟨rfl, hx1⟩
      have hb1 : Boxed w1 B 4 (.bool q) := (hx1.block B hl).trans hb
      have hc1 := hb1.cell
      have hf1 := hb1.frozen
      have hl1 := hb1.lt
      go_wp2_with fail
      go_ret
      exact ⟨rfl, hb1.set _, (below_le (Nat.le_of_lt hl) hx1).setCell (p := ⟨B, 0, none⟩) (Nat.le_refl B) _⟩
    | false =>
      have e1 : Hid (fitS s W = true) := Lib.hid (by rw [hd.out, hq, hz]; rfl)
      rw [hz] at C1
      rw [e1.out, Bool.and_true, if_pos rfl]
      have hp : Hid (padV s W = s ++ ⟨(List.replicate (W - s.size) (0 : UInt8)).toArray⟩) := Lib.hid rfl
      go_enter Tryz.func100, Tryz.ntmps100
      go_wp2_with fail
      refine C1.out.mono ?_; rintro e w1 ⟨rfl, hx1⟩
      go_wp2_with fail
      refine (C3.out _).mono ?_; rintro e w2 ⟨rfl, hx2⟩
      have hz2 : (⟨(List.replicate (W - s.size) (0 : UInt8)).toArray⟩ : ByteArray).size ≤ 1000 := by
        show (List.replicate (W - s.size) (0 : UInt8)).toArray.size ≤ 1000
        simp; omega
      generalize (⟨(List.replicate (W - s.size) (0 : UInt8)).toArray⟩ : ByteArray) = R at *
      go_wp2_with fail
      go_ret
      exact ⟨ret_val (by rw [hp.out]; rfl), ((hx1.trans hx2).block B hl).trans hb, below_le (Nat.le_of_lt hl) (hx1.trans hx2)⟩
set_option maxHeartbeats 1600000 in
set_option maxRecDepth 100000 in
theorem num_any (n W f k : Int) (t : ByteArray) (A B : Nat) (q : Bool) (w : World) (ha : Boxed w A 3 (.int .i64 f)) (hb : Boxed w B 4 (.bool q))
    (C1 : ∀ w, Calls Tryz.prog 103 #[.int .i64 n, .int .i64 W, .bool (f == 3)] w fun e w' => e = .returned (.tuple #[.string t, .int .i64 k]) ∧ Ext w w') :
    Calls Tryz.prog 102 #[.int .i64 n, .int .i64 W, .pointer (some ⟨A, 0, none⟩), .pointer (some ⟨B, 0, none⟩)] w fun e w' => e = .returned (.string t) ∧ Boxed w' B 4 (.bool (q && (k == 0))) ∧ Below B w w' := by
  have C2 := Lib.hid C1
  clear C1
  have ha0 := ha.cell
  have hl := hb.lt
  cases q with
  | true =>
    rw [Bool.true_and]
    go_enter Tryz.func102, Tryz.ntmps102
    go_wp2_with fail
    refine (C2.out _).mono ?_; rintro e w1 ⟨rfl, hx1⟩
    have hb1 : Boxed w1 B 4 (.bool true) := (hx1.block B hl).trans hb
    have hc1 := hb1.cell
    have hf1 := hb1.frozen
    have hl1 := hb1.lt
    go_wp2_with fail
    go_ret
    exact ⟨rfl, hb1.set _, (below_le (Nat.le_of_lt hl) hx1).setCell (p := ⟨B, 0, none⟩) (Nat.le_refl B) _⟩
  | false =>
    rw [Bool.false_and]
    go_enter Tryz.func102, Tryz.ntmps102
    go_wp2_with fail
    refine (C2.out _).mono ?_; rintro e w1 ⟨rfl, hx1⟩
    have hb1 : Boxed w1 B 4 (.bool false) := (hx1.block B hl).trans hb
    have hc1 := hb1.cell
    have hf1 := hb1.frozen
    have hl1 := hb1.lt
    go_wp2_with fail
    go_ret
    exact ⟨rfl, hb1.set _, (below_le (Nat.le_of_lt hl) hx1).setCell (p := ⟨B, 0, none⟩) (Nat.le_refl B) _⟩
end Go.Proofs.YtnbcbipigiopbaaGreatDoor
/-
  The sum of a header: both functions give the same.
-/
namespace Go.Proofs.YtnbcbipigiopbaaGreatDoor
open Go.RowKit Go.PlainAid

theorem bt_lo (s : ByteArray) (k : Nat) : 0 ≤ bt s k := bt_nonneg s k
theorem bt_hi (s : ByteArray) (k : Nat) : bt s k < 256 := by have := bt_le s k; omega

def sumTerm (s : ByteArray) (sg : Bool) (i : Nat) : Int := if 148 ≤ i ∧ i < 156 then 32 else if sg && decide (128 ≤ bt s i) then bt s i - 256 else bt s i
def sumUp (s : ByteArray) (sg : Bool) : Nat → Int
  | 0 => 0
  | k + 1 => sumUp s sg k + sumTerm s sg k
theorem sumTerm_lo (s : ByteArray) (sg : Bool) (k : Nat) : -128 ≤ sumTerm s sg k := by
  have := bt_lo s k
  unfold sumTerm
  split
  · omega
  · split
    · rename_i h; simp at h; omega
    · omega
theorem sumTerm_hi (s : ByteArray) (sg : Bool) (k : Nat) : sumTerm s sg k ≤ 256 := by
  have := bt_hi s k
  unfold sumTerm
  split
  · omega
  · split <;> omega
theorem sumUp_lo (s : ByteArray) (sg : Bool) : ∀ k : Nat, -(128 * (k : Int)) ≤ sumUp s sg k
  | 0 => by simp [sumUp]
  | k + 1 => by have := sumUp_lo s sg k; have := sumTerm_lo s sg k; simp only [sumUp]; omega
theorem sumUp_hi (s : ByteArray) (sg : Bool) : ∀ k : Nat, sumUp s sg k ≤ 256 * (k : Int)
  | 0 => by simp [sumUp]
  | k + 1 => by have := sumUp_hi s sg k; have := sumTerm_hi s sg k; simp only [sumUp]; omega

def sumV (s : ByteArray) (sg : Bool) : Int := if s.size = 512 then sumUp s sg s.size else 0
def sumE (s : ByteArray) : Int := if s.size = 512 then 0 else 1

set_option maxRecDepth 100000 in
theorem sum_any (s : ByteArray) (sg : Bool) (w : World) (hs : s.size ≤ 4611686018427387900) : Calls Tryz.prog 136 #[.string s, .bool sg] w fun e w' => e = .returned (.tuple #[.int .i64 (sumV s sg), errOf (sumE s)]) ∧ Ext w w' := by
  by_cases h : s.size = 512
  · have e1 : Hid (sumV s sg = sumUp s sg s.size) := Lib.hid (by unfold sumV; rw [if_pos h])
    have e2 : Hid (errOf (sumE s) = .nilIface) := Lib.hid (by unfold sumE; rw [if_pos h]; rfl)
    have hq : ((s.size : Int) != 512) = false := by simp; omega
    have hS : s.size ≤ 512 := by omega
    have hb := get_bt s
    clear h
    go_enter Tryz.func136, Tryz.ntmps136
    go_wp2_with fail
    go_loop [6, 14] (fun sm i => ∃ k : Nat, k ≤ s.size ∧ i = .int .i64 (k : Int) ∧ sm = .int .i64 (sumUp s sg k)) (fun _ i => (s.size - intOf i).toNat)
    case atStart => exact ⟨0, Nat.zero_le _, rfl, rfl⟩
    case round =>
      obtain ⟨k, hk, rfl, rfl⟩ := hrel
      have l1 := sumUp_lo s sg k
      have l2 := sumUp_hi s sg k
      have b1 := bt_lo s k
      have b2 := bt_hi s k
      by_cases hlt : k < s.size
      · by_cases hm : 148 ≤ k ∧ k < 156
        · have h1 : (148 : Int) ≤ (k : Int) := by omega
          have h2 : (k : Int) < 156 := by omega
          have et : Hid (sumTerm s sg k = 32) := Lib.hid (by unfold sumTerm; rw [if_pos hm])
          clear hm
          go_wp2_with fail
          go_round
          case rel => exact ⟨k + 1, hlt, by go_num, by simp only [sumUp, et.out]⟩
          case measure => simp [intOf]; omega
        · rcases (show (sg = false) ∨ (sg = true ∧ 128 ≤ bt s k) ∨ (sg = true ∧ bt s k < 128) by cases sg <;> simp <;> omega) with rfl | ⟨rfl, hc⟩ | ⟨rfl, hc⟩
          · have et : Hid (sumTerm s false k = bt s k) := Lib.hid (by unfold sumTerm; rw [if_neg hm]; simp)
            rcases (show ((k : Int) < 148) ∨ ((148 : Int) ≤ k ∧ (156 : Int) ≤ k) by omega) with h1 | ⟨h1, h2⟩ <;> clear hm
            all_goals (go_wp2_with fail; go_round)
            all_goals (first | exact ⟨k + 1, hlt, by go_num, by simp only [sumUp, et.out]⟩ | (simp [intOf]; omega))
          · have et : Hid (sumTerm s true k = bt s k - 256) := Lib.hid (by unfold sumTerm; rw [if_neg hm]; simp [hc])
            have hw : Hid (RowKit.wrap64 (sumUp s true k + RowKit.wrap64 (IntKind.i8.wrap (bt s k))) = sumUp s true k + (bt s k - 256)) := Lib.hid (by
              have : IntKind.i8.wrap (bt s k) = bt s k - 256 := by simp [IntKind.wrap, IntKind.bits, IntKind.signed]; omega
              rw [this, IntWalk.wrap64_in (bt s k - 256) (by omega), IntWalk.wrap64_in _ (by omega)])
            rcases (show ((k : Int) < 148) ∨ ((148 : Int) ≤ k ∧ (156 : Int) ≤ k) by omega) with h1 | ⟨h1, h2⟩ <;> clear hm
            all_goals (go_wp2_with fail; go_round)
            all_goals (first | exact ⟨k + 1, hlt, by go_num, by simp only [sumUp, et.out, hw.out]⟩ | (simp [intOf]; omega))
          · have et : Hid (sumTerm s true k = bt s k) := Lib.hid (by unfold sumTerm; rw [if_neg hm]; simp; omega)
            rcases (show ((k : Int) < 148) ∨ ((148 : Int) ≤ k ∧ (156 : Int) ≤ k) by omega) with h1 | ⟨h1, h2⟩ <;> clear hm
            all_goals (go_wp2_with fail; go_round)
            all_goals (first | exact ⟨k + 1, hlt, by go_num, by simp only [sumUp, et.out]⟩ | (simp [intOf]; omega))
      · have he : Hid (k = s.size) := Lib.hid (by omega)
        go_wp2_with fail
        go_ret2
        exact ⟨ret_val (by rw [e1.out, e2.out, he.out]; rfl), (by show Below _ _ _; repeat' (first | (with_reducible exact Below.refl _ _) | (with_reducible assumption) | (with_reducible refine belowDrewN ?_ _) | (with_reducible refine Below.alloc ?_ ?_ _) | (with_reducible refine Below.drew ?_) | (with_reducible refine Below.setCell ?_ ?_ _) | go_size))⟩
  · have e1 : Hid (sumV s sg = 0) := Lib.hid (by unfold sumV; rw [if_neg h])
    have e2 : Hid (errOf (sumE s) = .iface 33 (.int .i64 1)) := Lib.hid (by unfold sumE; rw [if_neg h]; rfl)
    have hq : ((s.size : Int) != 512) = true := by simp; omega
    clear h
    go_enter Tryz.func136, Tryz.ntmps136
    go_wp2_with fail
    go_ret2
    exact ⟨ret_val (by rw [e1.out, e2.out]; rfl), (by show Below _ _ _; repeat' (first | (with_reducible exact Below.refl _ _) | (with_reducible assumption) | (with_reducible refine belowDrewN ?_ _) | (with_reducible refine Below.alloc ?_ ?_ _) | (with_reducible refine Below.drew ?_) | (with_reducible refine Below.setCell ?_ ?_ _) | go_size))⟩

def sumPad (k : Nat) : Int := 32 * ((min (k - 148) 8 : Nat) : Int)
def refTerm (s : ByteArray) (sg : Bool) (i : Nat) : Int := if 148 ≤ i ∧ i < 156 then 0 else sumTerm s sg i
theorem pad_term (s : ByteArray) (sg : Bool) (k : Nat) : sumTerm s sg k + sumPad k = refTerm s sg k + sumPad (k + 1) := by
  unfold sumPad refTerm
  by_cases h : 148 ≤ k ∧ k < 156
  · have e : sumTerm s sg k = 32 := by unfold sumTerm; rw [if_pos h]
    rw [if_pos h, e]; omega
  · rw [if_neg h]; omega
def refUp (s : ByteArray) (sg : Bool) (k : Nat) : Int := 256 + sumUp s sg k - sumPad k
theorem refUp_succ (s : ByteArray) (sg : Bool) (k : Nat) : refUp s sg (k + 1) = refUp s sg k + refTerm s sg k := by
  have := pad_term s sg k
  unfold refUp
  simp only [sumUp]
  omega
theorem refUp_zero (s : ByteArray) (sg : Bool) : refUp s sg 0 = 256 := rfl
theorem refUp_end (s : ByteArray) (sg : Bool) (k : Nat) (h : k = 512) : refUp s sg k = sumUp s sg k := by
  unfold refUp sumPad
  subst h
  generalize sumUp s sg 512 = x
  have : ((min (512 - 148) 8 : Nat) : Int) = 8 := by decide
  rw [this]; omega
theorem refUp_lo (s : ByteArray) (sg : Bool) (k : Nat) : -(128 * (k : Int)) ≤ refUp s sg k := by
  have := sumUp_lo s sg k
  unfold refUp sumPad
  omega
theorem refUp_hi (s : ByteArray) (sg : Bool) (k : Nat) : refUp s sg k ≤ 256 * (k : Int) + 256 := by
  have := sumUp_hi s sg k
  unfold refUp sumPad
  omega

set_option maxRecDepth 100000 in
theorem refSum_any (s : ByteArray) (sg : Bool) (w : World) (hs : s.size ≤ 4611686018427387900) : Calls Tryz.prog 122 #[.string s, .bool sg] w fun e w' => e = .returned (.tuple #[.int .i64 (sumV s sg), .int .i64 (sumE s)]) ∧ Ext w w' := by
  by_cases h : s.size = 512
  · have e1 : Hid (sumV s sg = refUp s sg s.size) := Lib.hid (by unfold sumV; rw [if_pos h, refUp_end _ _ _ h])
    have e2 : Hid (sumE s = 0) := Lib.hid (by unfold sumE; rw [if_pos h])
    have hq : ((s.size : Int) != 512) = false := by simp; omega
    have hS : s.size ≤ 512 := by omega
    clear h
    obtain ⟨cap, C, kc, hC⟩ : ∃ cap C, (convert 9 98 (.string s)).run Tryz.prog w = .ok (.slice (some ⟨w.heap.size, 0, none⟩) s.size cap) (w.drew.alloc (.cells C 5 (C.size, C.size + 1))) ∧ ∀ k, k < s.size → C[k]? = some (.int .u8 (bt s k)) :=
      ⟨_, _, run_bytes_of_string w 9 98 5 s Tryz.underlying9 Tryz.underlying98 Tryz.underlying5, fun k hk => by
        have hk' : k < s.data.size := hk
        rw [bytesRow_at s _ k hk', ← get_bt s k hk]; rfl⟩
    have hc : ∀ k : Nat, k < s.size → (w.alloc (.cells C 5 (C.size, C.size + 1))).cell? ⟨w.heap.size, k, none⟩ = some (.int .u8 (bt s k)) := fun k hk => by
      have := World.cell?_alloc_mark w C 5 (C.size, C.size + 1) k
      rw [hC k hk] at this
      exact this
    go_enter Tryz.func122, Tryz.ntmps122
    go_wp2_with fail
    go_loop [6, 15] (fun sm i => ∃ k : Nat, k ≤ s.size ∧ i = .int .i64 (k : Int) ∧ sm = .int .i64 (refUp s sg k)) (fun _ i => (s.size - intOf i).toNat)
    case atStart => exact ⟨0, Nat.zero_le _, rfl, by rw [refUp_zero]⟩
    case round =>
      obtain ⟨k, hk, rfl, rfl⟩ := hrel
      have l1 := refUp_lo s sg k
      have l2 := refUp_hi s sg k
      have b1 := bt_lo s k
      have b2 := bt_hi s k
      by_cases hlt : k < s.size
      · have ck := hc k hlt
        by_cases hm : 148 ≤ k ∧ k < 156
        · have h1 : (148 : Int) ≤ (k : Int) := by omega
          have h2 : (k : Int) ≤ 155 := by omega
          have et : Hid (refTerm s sg k = 0) := Lib.hid (by unfold refTerm; rw [if_pos hm])
          clear hm
          go_wp2_with ((refine (within_yes' h1 h2 _).mono ?_); rintro e w' ⟨rfl, rfl⟩)
          go_round
          case rel => exact ⟨k + 1, hlt, by go_num, by simp [refUp_succ, et.out]⟩
          case measure => simp [intOf]; omega
        · have hn : (k : Int) < 148 ∨ 155 < (k : Int) := by omega
          have er : Hid (refTerm s sg k = sumTerm s sg k) := Lib.hid (by unfold refTerm; rw [if_neg hm])
          rcases (show (sg = false) ∨ (sg = true ∧ 128 ≤ bt s k) ∨ (sg = true ∧ bt s k < 128) by cases sg <;> simp <;> omega) with rfl | ⟨rfl, hc⟩ | ⟨rfl, hc⟩
          · have et : Hid (sumTerm s false k = bt s k) := Lib.hid (by unfold sumTerm; rw [if_neg hm]; simp)
            clear hm
            go_wp2_with ((refine (within_no' hn _).mono ?_); rintro e w' ⟨rfl, rfl⟩)
            go_round
            all_goals (first | exact ⟨k + 1, hlt, by go_num, by simp only [refUp_succ, er.out, et.out]⟩ | (simp [intOf]; omega))
          · have et : Hid (sumTerm s true k = bt s k - 256) := Lib.hid (by unfold sumTerm; rw [if_neg hm]; simp [hc])
            clear hm
            go_wp2_with ((refine (within_no' hn _).mono ?_); rintro e w' ⟨rfl, rfl⟩)
            go_round
            all_goals (first | exact ⟨k + 1, hlt, by go_num, by simp only [refUp_succ, er.out, et.out]; congr 1; omega⟩ | (simp [intOf]; omega))
          · have et : Hid (sumTerm s true k = bt s k) := Lib.hid (by unfold sumTerm; rw [if_neg hm]; simp; omega)
            clear hm
            go_wp2_with ((refine (within_no' hn _).mono ?_); rintro e w' ⟨rfl, rfl⟩)
            go_round
            all_goals (first | exact ⟨k + 1, hlt, by go_num, by simp only [refUp_succ, er.out, et.out]⟩ | (simp [intOf]; omega))
      · have he : Hid (k = s.size) := Lib.hid (by omega)
        go_wp2_with fail
        go_ret2
        exact ⟨ret_val (by rw [e1.out, e2.out, he.out]; rfl), (by show Below _ _ _; repeat' (first | (with_reducible exact Below.refl _ _) | (with_reducible assumption) | (with_reducible refine belowDrewN ?_ _) | (with_reducible refine Below.alloc ?_ ?_ _) | (with_reducible refine Below.drew ?_) | (with_reducible refine Below.setCell ?_ ?_ _) | go_size))⟩
  · have e1 : Hid (sumV s sg = 0) := Lib.hid (by unfold sumV; rw [if_neg h])
    have e2 : Hid (sumE s = 1) := Lib.hid (by unfold sumE; rw [if_neg h])
    have hq : ((s.size : Int) != 512) = true := by simp; omega
    clear h
    go_enter Tryz.func122, Tryz.ntmps122
    go_wp2_with fail
    go_ret2
    exact ⟨ret_val (by rw [e1.out, e2.out]; rfl), (by show Below _ _ _; repeat' (first | (with_reducible exact Below.refl _ _) | (with_reducible assumption) | (with_reducible refine belowDrewN ?_ _) | (with_reducible refine Below.alloc ?_ ?_ _) | (with_reducible refine Below.drew ?_) | (with_reducible refine Below.setCell ?_ ?_ _) | go_size))⟩
end Go.Proofs.YtnbcbipigiopbaaGreatDoor
/-
  block.Seal and the reference's Seal: a header with its sum.
-/
namespace Go.Proofs.YtnbcbipigiopbaaGreatDoor
open Go.RowKit Go.PlainAid

theorem sumUp_nonneg (s : ByteArray) : ∀ k, 0 ≤ sumUp s false k
  | 0 => by simp [sumUp]
  | k + 1 => by
    have := sumUp_nonneg s k
    have h1 : 0 ≤ sumTerm s false k := by
      have := bt_lo s k
      unfold sumTerm
      split
      · omega
      · simp; omega
    simp only [sumUp]
    omega
theorem sumV_rng (s : ByteArray) (h : s.size = 512) : 0 ≤ sumV s false ∧ sumV s false ≤ 131072 := by
  have h1 := sumUp_nonneg s 512
  have h2 := sumUp_hi s false 512
  unfold sumV
  rw [if_pos h, h]
  omega
theorem octE_sum (s : ByteArray) (h : s.size = 512) : octE (sumV s false) 7 = 0 := by
  have ⟨h1, h2⟩ := sumV_rng s h
  unfold octE mostI
  rw [if_neg (by omega), if_neg]
  rw [if_pos (by omega)]
  have : ((pw 8 ((7 : Int) - 1).toNat : Nat) : Int) = 262144 := by decide
  omega
/-- A header with its sum, and the error. -/
def sealS (s : ByteArray) : ByteArray := if s.size = 512 then s.extract 0 148 ++ octS (sumV s false) 7 ++ ⟨#[32]⟩ ++ s.extract 156 s.size else ⟨#[]⟩
theorem sealS_size (s : ByteArray) (h : s.size = 512) : (sealS s).size = 512 := by
  have h1 := octS_size (sumV s false) 7 (octE_sum s h)
  unfold sealS
  rw [if_pos h]
  simp only [ByteArray.size_append, ByteArray.size_extract]
  have : (⟨#[32]⟩ : ByteArray).size = 1 := rfl
  omega

set_option maxHeartbeats 1600000 in
set_option maxRecDepth 100000 in
theorem seal_any (s : ByteArray) (w : World) (hs : s.size ≤ 100000) : Calls Tryz.prog 93 #[.string s] w fun e w' => e = .returned (.tuple #[.string (sealS s), errOf (sumE s)]) ∧ Ext w w' := by
  have C1 := Lib.hid (fun w => sum_any s false w (by omega))
  by_cases h : s.size = 512
  · have hE : sumE s = 0 := by unfold sumE; rw [if_pos h]
    have hO := octE_sum s h
    have hr := sumV_rng s h
    have C2 := Lib.hid (fun w => octal_any (sumV s false) 7 (by omega) w)
    have hv : Hid (sealS s = s.extract 0 148 ++ octS (sumV s false) 7 ++ ⟨#[32]⟩ ++ s.extract 156 s.size) := Lib.hid (by unfold sealS; rw [if_pos h])
    have hE1 : Hid (errOf (sumE s) = .nilIface) := Lib.hid (by rw [hE]; rfl)
    have hE2 : Hid (errOf (octE (sumV s false) 7) = .nilIface) := Lib.hid (by rw [hO]; rfl)
    have hl := octS_le (sumV s false) 7
    have h1 : 148 ≤ s.size := by omega
    have h2 : 156 ≤ s.size := by omega
    have h1' : (148 : Int) ≤ s.size := by omega
    have h2' : (156 : Int) ≤ s.size := by omega
    have h3 : s.size ≤ 512 := by omega
    have z1 : (s.extract 0 148).size ≤ 512 := by rw [ByteArray.size_extract]; omega
    have z2 : (s.extract 156 s.size).size ≤ 512 := by rw [ByteArray.size_extract]; omega
    clear h hE hO hr
    generalize octS (sumV s false) 7 = t at *
    generalize sumV s false = a at *
    go_enter Tryz.func93, Tryz.ntmps93
    go_wp2_with fail
    refine (C1.out _).mono ?_; rintro e w1 ⟨rfl, hx1⟩
    rw [hE1.out]
    go_wp2_with fail
    refine (C2.out _).mono ?_; rintro e w2 ⟨rfl, hx2⟩
    rw [hE2.out]
    go_wp2_with fail
    refine wp_region_det (Stood _) (by kernel_rfl) (by kernel_rfl) (Stood.start _) ?_
    repeat (first
      | (refine det_skip (by rfl) ?_; simp only [Act.put, List.setIfInBounds_toArray, List.set_cons_zero, List.set_cons_succ])
      | (refine det_op (v := ?_) rfl (by rfl) (fun w' hS => ?_) ?_; rotate_left; (focus (obtain ⟨hcl, hxt⟩ := hS; go_wp2_with (fail); (first | refine ⟨?_, rfl, hcl, hxt⟩ | refine ⟨?_, rfl, Stood.of (hxt.trans (by assumption))⟩); (first | (simp only [List.getElem?_toArray, List.getElem?_cons_succ, List.getElem?_cons_zero]; rfl) | rfl))); simp only [Act.put, List.setIfInBounds_toArray, List.set_cons_zero, List.set_cons_succ]))
    refine det_end ?_
    intro w3 hS
    have hx := hS.2
    clear hS
    go_wp2_with fail
    go_ret2
    exact ⟨ret_val (by rw [hE1.out, hv.out]; rfl), (hx1.trans hx2).trans hx⟩
  · have hE : sumE s = 1 := by unfold sumE; rw [if_neg h]
    have hE1 : Hid (errOf (sumE s) = .iface 33 (.int .i64 1)) := Lib.hid (by rw [hE]; rfl)
    have hv : Hid (sealS s = ⟨#[]⟩) := Lib.hid (by unfold sealS; rw [if_neg h])
    clear h hE
    generalize sumV s false = a at *
    go_enter Tryz.func93, Tryz.ntmps93
    go_wp2_with fail
    refine (C1.out _).mono ?_; rintro e w1 ⟨rfl, hx1⟩
    rw [hE1.out]
    go_wp2_with fail
    go_ret2
    exact ⟨ret_val (by rw [hE1.out, hv.out]; rfl), hx1⟩

set_option maxHeartbeats 1600000 in
set_option maxRecDepth 100000 in
theorem refSeal_any (s : ByteArray) (w : World) (hs : s.size ≤ 100000) : Calls Tryz.prog 77 #[.string s] w fun e w' => e = .returned (.tuple #[.string (sealS s), .int .i64 (sumE s)]) ∧ Ext w w' := by
  have C1 := Lib.hid (fun w => refSum_any s false w (by omega))
  by_cases h : s.size = 512
  · have hE : Hid (sumE s = 0) := Lib.hid (by unfold sumE; rw [if_pos h])
    have hr := sumV_rng s h
    have C2 := Lib.hid (fun w => refOctal_any (sumV s false) 7 (by omega) w)
    have hv : Hid (sealS s = s.extract 0 148 ++ octS (sumV s false) 7 ++ ⟨#[32]⟩ ++ s.extract 156 s.size) := Lib.hid (by unfold sealS; rw [if_pos h])
    have hl := octS_le (sumV s false) 7
    have h1 : 148 ≤ s.size := by omega
    have h2 : 156 ≤ s.size := by omega
    have h1' : (148 : Int) ≤ s.size := by omega
    have h2' : (156 : Int) ≤ s.size := by omega
    have h3 : s.size ≤ 512 := by omega
    have z1 : (s.extract 0 148).size ≤ 512 := by rw [ByteArray.size_extract]; omega
    have z2 : (s.extract 156 s.size).size ≤ 512 := by rw [ByteArray.size_extract]; omega
    clear h hr
    generalize octS (sumV s false) 7 = t at *
    generalize octE (sumV s false) 7 = x at *
    generalize sumV s false = a at *
    generalize sumE s = c at *
    go_enter Tryz.func77, Tryz.ntmps77
    go_wp2_with fail
    refine (C1.out _).mono ?_; rintro e w1 ⟨rfl, hx1⟩
    rw [hE.out]
    go_wp2_with fail
    refine (C2.out _).mono ?_; rintro e w2 ⟨rfl, hx2⟩
    go_wp2_with fail
    refine wp_region_det (Stood _) (by kernel_rfl) (by kernel_rfl) (Stood.start _) ?_
    repeat (first
      | (refine det_skip (by rfl) ?_; simp only [Act.put, List.setIfInBounds_toArray, List.set_cons_zero, List.set_cons_succ])
      | (refine det_op (v := ?_) rfl (by rfl) (fun w' hS => ?_) ?_; rotate_left; (focus (obtain ⟨hcl, hxt⟩ := hS; go_wp2_with (fail); (first | refine ⟨?_, rfl, hcl, hxt⟩ | refine ⟨?_, rfl, Stood.of (hxt.trans (by assumption))⟩); (first | (simp only [List.getElem?_toArray, List.getElem?_cons_succ, List.getElem?_cons_zero]; rfl) | rfl))); simp only [Act.put, List.setIfInBounds_toArray, List.set_cons_zero, List.set_cons_succ]))
    refine det_end ?_
    intro w3 hS
    have hx := hS.2
    clear hS
    go_wp2_with fail
    go_ret2
    exact ⟨ret_val (by rw [hE.out, hv.out]; rfl), (hx1.trans hx2).trans hx⟩
  · have hE : Hid (sumE s = 1) := Lib.hid (by unfold sumE; rw [if_neg h])
    have hv : Hid (sealS s = ⟨#[]⟩) := Lib.hid (by unfold sealS; rw [if_neg h])
    clear h
    generalize sumV s false = a at *
    generalize sumE s = c at *
    go_enter Tryz.func77, Tryz.ntmps77
    go_wp2_with fail
    refine (C1.out _).mono ?_; rintro e w1 ⟨rfl, hx1⟩
    rw [hE.out]
    go_wp2_with fail
    go_ret2
    exact ⟨ret_val (by rw [hE.out, hv.out]; rfl), hx1⟩
end Go.Proofs.YtnbcbipigiopbaaGreatDoor
/-
  A header's bytes, in plain words: fields put into a block of zeros against fields set one behind the other. No program, no conditions.
-/
namespace Go.Proofs.YtnbcbipigiopbaaGreatDoor
open Go.RowKit Go.PlainAid

/-- Is a place in one of the fields? -/
def inF (fs : List (Nat × Nat)) (o : Nat) : Bool := fs.any fun f => decide (f.1 ≤ o) && decide (o < f.1 + f.2)
theorem inF_cons (a n : Nat) (fs : List (Nat × Nat)) (o : Nat) : inF ((a, n) :: fs) o = ((decide (a ≤ o) && decide (o < a + n)) || inF fs o) := rfl
/-- A block with the bytes of T in the fields, and zeros elsewhere. -/
def Filled (T : Nat → UInt8) (fs : List (Nat × Nat)) (L : List UInt8) : Prop := L.length = 512 ∧ ∀ o, o < 512 → L.getD o 0 = if inF fs o then T o else 0

theorem filled_start (T : Nat → UInt8) : Filled T [] (List.replicate 512 0) := ⟨List.length_replicate, fun o h => by
  rw [List.getD_eq_getElem?_getD, List.getElem?_replicate, if_pos h]; rfl⟩
theorem splice_len {L cs : List UInt8} {a : Nat} (h : a + cs.length ≤ L.length) : (splice L a cs).length = L.length := by
  unfold splice
  simp only [List.length_append, List.length_take, List.length_drop]
  omega
theorem splice_get {L cs : List UInt8} {a o : Nat} (h : a + cs.length ≤ L.length) : (splice L a cs).getD o 0 = if a ≤ o ∧ o < a + cs.length then cs.getD (o - a) 0 else L.getD o 0 := by
  unfold splice
  simp only [List.getD_eq_getElem?_getD]
  by_cases h1 : o < a
  · rw [if_neg (by omega), List.getElem?_append_left (by simp; omega), List.getElem?_take, if_pos h1]
  · have hl : (List.take a L).length = a := by simp; omega
    rw [List.getElem?_append_right (by omega), hl]
    by_cases h2 : o < a + cs.length
    · rw [if_pos (by omega), List.getElem?_append_left (by omega)]
    · rw [if_neg (by omega), List.getElem?_append_right (by omega), List.getElem?_drop]
      congr 2
      omega

theorem filled_step {T : Nat → UInt8} {fs : List (Nat × Nat)} {L : List UInt8} (a n : Nat) (s : List UInt8) (h : Filled T fs L) (hs : s.length ≤ n) (hl : a + n ≤ 512)
    (hT : ∀ j, j < n → T (a + j) = s.getD j 0) (hd : ∀ o, a ≤ o → o < a + n → inF fs o = false) : Filled T ((a, n) :: fs) (splice L a s) := by
  refine ⟨by rw [splice_len (by rw [h.1]; omega)]; exact h.1, fun o ho => ?_⟩
  rw [splice_get (by rw [h.1]; omega), inF_cons, h.2 o ho]
  by_cases h1 : a ≤ o
  · by_cases h2 : o < a + n
    · have e := hT (o - a) (by omega)
      rw [show a + (o - a) = o by omega] at e
      rw [hd o h1 h2]
      simp only [decide_eq_true h1, decide_eq_true h2, Bool.and_self, Bool.true_or, if_true, e]
      by_cases h3 : o < a + s.length
      · rw [if_pos ⟨h1, h3⟩]
      · rw [if_neg (by omega)]
        simp only [Bool.false_eq_true, if_false]
        rw [List.getD_eq_getElem?_getD, List.getElem?_eq_none (by omega)]
        rfl
    · simp only [decide_eq_false h2, Bool.and_false, Bool.false_or]
      rw [if_neg (by omega)]
  · simp only [decide_eq_false h1, Bool.false_and, Bool.false_or]
    rw [if_neg (by omega)]

theorem flat_at : ∀ (segs : List (List UInt8)) (i off j : Nat) (F : List UInt8), segs[i]? = some F → ((segs.take i).map List.length).sum = off → j < F.length → segs.flatten.getD (off + j) 0 = F.getD j 0
  | [], i, off, j, F, h, _, _ => by simp at h
  | x :: segs, 0, off, j, F, h, ho, hj => by
    simp at h ho
    subst h ho
    rw [List.flatten_cons, Nat.zero_add, List.getD_eq_getElem?_getD, List.getElem?_append_left hj, List.getD_eq_getElem?_getD]
  | x :: segs, i + 1, off, j, F, h, ho, hj => by
    simp only [List.take_succ_cons, List.map_cons, List.sum_cons] at ho
    have ih := flat_at segs i (off - x.length) j F (by simpa using h) (by omega) hj
    rw [← ih, List.flatten_cons, List.getD_eq_getElem?_getD, List.getElem?_append_right (by omega), List.getD_eq_getElem?_getD]
    congr 2
    omega

theorem bt_getD (s : ByteArray) (k : Nat) : bt s k = ((s.data.toList.getD k 0).toNat : Int) := by
  unfold bt
  split
  · rename_i h
    have h' : k < s.data.toList.length := h
    rw [List.getD_eq_getElem?_getD, List.getElem?_eq_getElem h']
    rfl
  · rename_i h
    have h' : s.data.toList.length ≤ k := Nat.le_of_not_lt h
    rw [List.getD_eq_getElem?_getD, List.getElem?_eq_none h']
    rfl
theorem sumUp_congr (a b : ByteArray) (h : ∀ o, o < 512 → (o < 148 ∨ 156 ≤ o) → a.data.toList.getD o 0 = b.data.toList.getD o 0) : ∀ k, k ≤ 512 → sumUp a false k = sumUp b false k
  | 0, _ => rfl
  | k + 1, hk => by
    simp only [sumUp]
    rw [sumUp_congr a b h k (by omega)]
    congr 1
    unfold sumTerm
    by_cases e : 148 ≤ k ∧ k < 156
    · rw [if_pos e, if_pos e]
    · rw [if_neg e, if_neg e, bt_getD, bt_getD, h k (by omega) (by omega)]
theorem extract_congr (a b : ByteArray) (i j : Nat) (ha : a.size = 512) (hb : b.size = 512) (hj : j ≤ 512) (h : ∀ o, i ≤ o → o < j → a.data.toList.getD o 0 = b.data.toList.getD o 0) : a.extract i j = b.extract i j := by
  apply ByteArray.ext
  rw [ByteArray.data_extract, ByteArray.data_extract]
  apply Array.toList_inj.1
  rw [Array.toList_extract, Array.toList_extract]
  apply List.ext_getElem?
  intro n
  have la : a.data.toList.length = 512 := ha
  have lb : b.data.toList.length = 512 := hb
  rw [List.extract_eq_take_drop, List.extract_eq_take_drop, List.getElem?_take, List.getElem?_take]
  split
  · rw [List.getElem?_drop, List.getElem?_drop]
    have := h (i + n) (by omega) (by omega)
    rw [List.getD_eq_getElem?_getD, List.getD_eq_getElem?_getD, List.getElem?_eq_getElem (by omega), List.getElem?_eq_getElem (by omega)] at this
    rw [List.getElem?_eq_getElem (by omega), List.getElem?_eq_getElem (by omega)]
    exact congrArg some this
  · rfl
theorem seal_congr (a b : ByteArray) (ha : a.size = 512) (hb : b.size = 512) (h : ∀ o, o < 512 → (o < 148 ∨ 156 ≤ o) → a.data.toList.getD o 0 = b.data.toList.getD o 0) : sealS a = sealS b := by
  unfold sealS sumV
  rw [if_pos ha, if_pos hb, if_pos ha, if_pos hb, ha, hb, sumUp_congr a b h 512 (Nat.le_refl _), extract_congr a b 0 148 ha hb (by omega) (fun o h1 h2 => h o (by omega) (by omega)), extract_congr a b 156 512 ha hb (by omega) (fun o h1 h2 => h o (by omega) (by omega))]
theorem filled_seal {T : ByteArray} {fs : List (Nat × Nat)} {L : List UInt8} (h : Filled (fun o => T.data.toList.getD o 0) fs L) (hT : T.size = 512) (h0 : ∀ o, o < 512 → (o < 148 ∨ 156 ≤ o) → inF fs o = false → T.data.toList.getD o 0 = 0) :
    sealS ⟨L.toArray⟩ = sealS T := by
  refine seal_congr _ _ (by show L.toArray.size = 512; simpa using h.1) hT fun o ho ho2 => ?_
  show L.toArray.toList.getD o 0 = _
  rw [List.toList_toArray, h.2 o ho]
  cases e : inF fs o with
  | true => rfl
  | false => exact (h0 o ho ho2 e).symm

/-- The text in its field, as bytes. -/
def padL (s : List UInt8) (n : Nat) : List UInt8 := s ++ List.replicate (n - s.length) 0
theorem padL_len {s : List UInt8} {n : Nat} (h : s.length ≤ n) : (padL s n).length = n := by unfold padL; simp; omega
theorem padL_get (s : List UInt8) (n j : Nat) : (padL s n).getD j 0 = s.getD j 0 := by
  unfold padL
  rw [List.getD_eq_getElem?_getD, List.getD_eq_getElem?_getD]
  by_cases h : j < s.length
  · rw [List.getElem?_append_left h]
  · rw [List.getElem?_append_right (by omega), List.getElem?_replicate, List.getElem?_eq_none (show s.length ≤ j by omega)]
    split <;> rfl
end Go.Proofs.YtnbcbipigiopbaaGreatDoor
