/-
  Contracts of glob.Quote and of the reference's Quote: both give the same text.
-/
import Derived.Test.YtioceakpmnhohaaNum
import Derived.Test.YtioceakpmnhohaaBuilder
import Derived.PlainAid
import Derived.Lib.Bytealg
namespace Go.Proofs.Ytioceakpmnhohaa
open Go.RowKit Go.PlainAid

def qStar : ByteArray := ⟨#[42, 63, 91, 92]⟩
/-- Is byte k of s one that wants a backslash ahead? -/
def escB (s : ByteArray) (k : Nat) : Bool := decide (0 ≤ Lib.indexByte qStar.data.toList (bt s k).toNat.toUInt8)
def qAt (s : ByteArray) (k : Nat) : List UInt8 := (if escB s k then [92] else []) ++ [(bt s k).toNat.toUInt8]
def qTake (s : ByteArray) : Nat → List UInt8
  | 0 => []
  | k + 1 => qTake s k ++ qAt s k
theorem qAt_len (s : ByteArray) (k : Nat) : (qAt s k).length ≤ 2 := by unfold qAt; split <;> simp
theorem qTake_len (s : ByteArray) : ∀ k, (qTake s k).length ≤ 2 * k
  | 0 => by simp [qTake]
  | k + 1 => by have := qTake_len s k; have := qAt_len s k; simp only [qTake, List.length_append]; omega
def quoteV (s : ByteArray) : ByteArray := ⟨(qTake s s.size).toArray⟩
theorem qTake_esc {s : ByteArray} {k : Nat} (h : escB s k = true) : qTake s (k + 1) = (qTake s k ++ [92]) ++ [(bt s k).toNat.toUInt8] := by simp [qTake, qAt, h]
theorem qTake_no {s : ByteArray} {k : Nat} (h : escB s k = false) : qTake s (k + 1) = qTake s k ++ [(bt s k).toNat.toUInt8] := by simp [qTake, qAt, h]
theorem one_cell (c : Int) (h0 : 0 ≤ c) (h1 : c ≤ 255) : Lib.byteCells [c.toNat.toUInt8] = [.int .u8 c] := by
  obtain ⟨n, rfl⟩ := Int.eq_ofNat_of_zero_le h0
  simp [Lib.byteCells]; omega
theorem byte_list (s : ByteArray) (k : Nat) (h : k < s.size) : (s.extract k (k + 1)) = ⟨#[(bt s k).toNat.toUInt8]⟩ := by
  apply ByteArray.ext
  rw [ByteArray.data_extract, ← get_bt s k h]
  have h' : k < s.data.size := h
  apply Array.ext
  · simp; omega
  · intro i hi1 hi2
    simp at hi1 hi2
    obtain rfl : i = 0 := by omega
    simp
    rfl

theorem byteCells_snoc (l : List UInt8) (c : Int) (h0 : 0 ≤ c) (h1 : c ≤ 255) : Lib.byteCells l ++ [.int .u8 c] = Lib.byteCells (l ++ [c.toNat.toUInt8]) := by
  rw [Lib.byteCells_append, one_cell c h0 h1]

set_option maxHeartbeats 1600000 in
set_option maxRecDepth 100000 in
theorem quote_any (s : ByteArray) (hs : s.size ≤ 1000000) (w : World) : Calls Try.prog 12 #[.string s] w fun e w' => e = .returned (.string (quoteV s)) ∧ Ext w w' := by
  have hb := get_bt s
  have hq : Hid (quoteV s = ⟨(qTake s s.size).toArray⟩) := Lib.hid rfl
  go_enter Try.func12, Try.ntmps12
  go_wp2_with fail
  go_loopw [7] (fun i wr => ∃ k : Nat, k ≤ s.size ∧ i = .int .i64 (k : Int) ∧ Lib.IsBuilder 49 5 w.heap.size w.heap.size (Lib.byteCells (qTake s k)) wr ∧ Below w.heap.size w wr) (fun i _ => (s.size - intOf i).toNat)
  case atStart => exact ⟨0, by omega, rfl, Lib.fresh_isBuilder _ _ w, (by show Below _ _ _; repeat' (first | (with_reducible exact Below.refl _ _) | (with_reducible assumption) | (with_reducible refine belowDrewN ?_ _) | (with_reducible refine Below.alloc ?_ ?_ _) | (with_reducible refine Below.drew ?_) | (with_reducible refine Below.setCell ?_ ?_ _) | go_size))⟩
  case round =>
    obtain ⟨k, hk, rfl, hI, hE⟩ := hrel
    have hl := qTake_len s k
    have b0 := bt_nonneg s k
    have b1 := bt_le s k
    have hsz := hE.size
    by_cases hlt : k < s.size
    · have c1 := fun w => Try.strings_IndexByte qStar (bt s k) w
      cases hesc : escB s k with
      | true =>
        have ht : 0 ≤ Lib.indexByte qStar.data.toList (bt s k).toNat.toUInt8 := by unfold escB at hesc; simpa using hesc
        have Hs := Lib.hid (qTake_esc hesc)
        have C1 := Lib.hid c1
        clear c1 hesc
        generalize Lib.indexByte qStar.data.toList (bt s k).toNat.toUInt8 = z at *
        have W1 := Lib.hid (writeByte_any w.heap.size w.heap.size _ 92 wr hI (by rw [Lib.byteCells_length]; omega) hsz)
        have e1 := byteCells_snoc (qTake s k) 92 (by decide) (by decide)
        rw [e1] at W1
        clear e1
        go_wp2_with fail
        refine (C1.out _).mono ?_; rintro e w9 ⟨rfl, hw9⟩; rw [hw9]; clear hw9 w9
        go_wp2_with fail
        refine W1.out.mono ?_; rintro e w5 ⟨rfl, h5, hb5⟩
        have W2 := Lib.hid (writeByte_any w.heap.size w.heap.size _ (bt s k) w5 (.inr h5) (by rw [Lib.byteCells_length]; simp; omega) (Nat.le_trans hsz hb5.size))
        have e2 := byteCells_snoc (qTake s k ++ [(92 : Int).toNat.toUInt8]) (bt s k) b0 b1
        rw [e2] at W2
        clear e2
        go_wp2_with fail
        refine W2.out.mono ?_; rintro e w6 ⟨rfl, h6, hb6⟩
        go_wp2_with fail
        go_roundw
        case rel => exact ⟨k + 1, hlt, by go_num, by rw [Hs.out]; exact .inr h6, (hE.trans hb5).trans hb6⟩
        case measure => simp [intOf]; omega
      | false =>
        have ht : Lib.indexByte qStar.data.toList (bt s k).toNat.toUInt8 < 0 := by unfold escB at hesc; simpa using hesc
        have Hs := Lib.hid (qTake_no hesc)
        have C1 := Lib.hid c1
        clear c1 hesc
        generalize Lib.indexByte qStar.data.toList (bt s k).toNat.toUInt8 = z at *
        have W1 := Lib.hid (writeByte_any w.heap.size w.heap.size _ (bt s k) wr hI (by rw [Lib.byteCells_length]; omega) hsz)
        have e1 := byteCells_snoc (qTake s k) (bt s k) b0 b1
        rw [e1] at W1
        clear e1
        go_wp2_with fail
        refine (C1.out _).mono ?_; rintro e w9 ⟨rfl, hw9⟩; rw [hw9]; clear hw9 w9
        go_wp2_with fail
        refine W1.out.mono ?_; rintro e w5 ⟨rfl, h5, hb5⟩
        go_wp2_with fail
        go_roundw
        case rel => exact ⟨k + 1, hlt, by go_num, by rw [Hs.out]; exact .inr h5, hE.trans hb5⟩
        case measure => simp [intOf]; omega
    · obtain rfl : k = s.size := by omega
      have S1 := Lib.hid (Try.Builder_String_any w.heap.size w.heap.size _ wr hI hsz)
      go_wp2_with fail
      refine S1.out.mono ?_; rintro e w5 ⟨rfl, hb5⟩
      go_wp2_with fail
      go_ret
      exact ⟨ret_val (by rw [hq.out] <;> rfl), hE.trans hb5⟩

def qB (s : ByteArray) (k : Nat) : ByteArray := ⟨(qTake s k).toArray⟩
theorem qB_size (s : ByteArray) (k : Nat) : (qB s k).size ≤ 2 * k := by
  have := qTake_len s k
  show (qTake s k).toArray.size ≤ _
  rw [List.size_toArray]; exact this
theorem qB_esc {s : ByteArray} {k : Nat} (hk : k < s.size) (h : escB s k = true) : qB s k ++ ⟨#[92]⟩ ++ s.extract k (k + 1) = qB s (k + 1) := by
  rw [byte_list s k hk]
  apply ByteArray.ext
  apply Array.ext'
  simp [qB, qTake_esc h]
theorem qB_no {s : ByteArray} {k : Nat} (hk : k < s.size) (h : escB s k = false) : qB s k ++ s.extract k (k + 1) = qB s (k + 1) := by
  rw [byte_list s k hk]
  apply ByteArray.ext
  apply Array.ext'
  simp [qB, qTake_no h]

set_option maxHeartbeats 1600000 in
set_option maxRecDepth 100000 in
theorem refQuote_any (s : ByteArray) (hs : s.size ≤ 1000000) (w : World) : Calls Try.prog 13 #[.string s] w fun e w' => e = .returned (.string (quoteV s)) ∧ Ext w w' := by
  have hb := get_bt s
  have hq : Hid (quoteV s = qB s s.size) := Lib.hid rfl
  go_enter Try.func13, Try.ntmps13
  go_wp2_with fail
  go_loopw [3, 7] (fun o i wr => ∃ k : Nat, k ≤ s.size ∧ i = .int .i64 (k : Int) ∧ o = .string (qB s k) ∧ Ext w wr) (fun _ i _ => (s.size - intOf i).toNat)
  case atStart => exact ⟨0, by omega, rfl, rfl, Ext.refl _⟩
  case round =>
    obtain ⟨k, hk, rfl, rfl, hE⟩ := hrel
    have hl := qB_size s k
    have b0 := bt_nonneg s k
    have b1 := bt_le s k
    by_cases hlt : k < s.size
    · have c1 := fun w => Try.strings_IndexByte qStar (bt s k) w
      have hx : (s.extract k (k + 1)).size ≤ 1 := by rw [ByteArray.size_extract]; omega
      cases hesc : escB s k with
      | true =>
        have ht : 0 ≤ Lib.indexByte qStar.data.toList (bt s k).toNat.toUInt8 := by unfold escB at hesc; simpa using hesc
        have Hs := Lib.hid (qB_esc hlt hesc)
        have C1 := Lib.hid c1
        clear c1 hesc
        generalize Lib.indexByte qStar.data.toList (bt s k).toNat.toUInt8 = z at *
        generalize qB s k = q at *
        go_wp2_with fail
        refine (C1.out _).mono ?_; rintro e w9 ⟨rfl, hw9⟩; rw [hw9]; clear hw9 w9
        go_wp2_with fail
        go_roundw
        case rel => exact ⟨k + 1, hlt, by go_num, by rw [← Hs.out], hE⟩
        case measure => simp [intOf]; omega
      | false =>
        have ht : Lib.indexByte qStar.data.toList (bt s k).toNat.toUInt8 < 0 := by unfold escB at hesc; simpa using hesc
        have Hs := Lib.hid (qB_no hlt hesc)
        have C1 := Lib.hid c1
        clear c1 hesc
        generalize Lib.indexByte qStar.data.toList (bt s k).toNat.toUInt8 = z at *
        generalize qB s k = q at *
        go_wp2_with fail
        refine (C1.out _).mono ?_; rintro e w9 ⟨rfl, hw9⟩; rw [hw9]; clear hw9 w9
        go_wp2_with fail
        go_roundw
        case rel => exact ⟨k + 1, hlt, by go_num, by rw [← Hs.out], hE⟩
        case measure => simp [intOf]; omega
    · obtain rfl : k = s.size := by omega
      generalize qB s s.size = q at *
      go_wp2_with fail
      go_ret
      exact ⟨ret_val (by rw [hq.out] <;> rfl), hE⟩
end Go.Proofs.Ytioceakpmnhohaa
