/-
  The reference's HeadRead: its two closures. No conditions but the text's length.
-/
import Derived.RangeFuncBox
import Derived.Test.YtiiaoagobjgkiaaGreatDoorHrZ
import Derived.Test.YtiiaoagobjgkiaaGreatDoorReadN
namespace Go.Proofs.YtiiaoagobjgkiaaGreatDoor
open Go.RowKit Go.WideShapes Go.PlainAid

set_option maxHeartbeats 1600000 in
set_option maxRecDepth 100000 in
theorem hrText_any (s : ByteArray) (a e n : Nat) (hn : a + n = e) (hs : s.size ≤ 100000) (he : e ≤ s.size) (c : Nat) (w : World) (hc : w.cell? ⟨c, 0, none⟩ = some (.string s)) (hm : HasMax w) :
    Calls Tryz.prog 72 #[.int .i64 (a : Int), .int .i64 (n : Int), .pointer (some ⟨c, 0, none⟩)] w fun r w' => r = .returned (.string (cutZ (s.extract a e))) ∧ Ext w w' := by
  have C1 := Lib.hid (fun w h => splitZ_any (s.extract a e) (by rw [ByteArray.size_extract]; omega) w h)
  have hl : c < w.heap.size := World.block_lt_of_cell? w _ hc
  have h1 : a ≤ e := by omega
  have h2 : (a : Int) + (n : Int) = (e : Int) := by omega
  have h3 := Lib.hid hn
  clear hn
  go_enter Tryz.func72, Tryz.ntmps72
  go_wp2_with fail
  refine (C1.out _ hm).mono ?_; rintro r w1 ⟨k, rfl, hk, hx1⟩
  have hk0 : 0 < k + 1 := by omega
  go_wp2_with fail
  go_ret
  exact ⟨rfl, hx1⟩

/-- The flag's box turned, and new blocks. -/
theorem grown_ext {w w' : World} (h : Ext w w') (r : Option Nat) : w.grownBy w' r := ⟨h.os, h.tape, h.output, h.size, fun i hi _ => h.block i hi⟩
theorem grown_set {a w : World} {g : Nat} (h : a.grownBy w (some g)) (u : Value) : a.grownBy (w.setCell ⟨g, 0, none⟩ u) (some g) :=
  ⟨h.os, h.tape, h.output, by simpa [World.setCell] using h.size, fun i hi hne => (Below.heap_setCell w ⟨g, 0, none⟩ u i (by
    rintro rfl
    exact hne rfl)).trans (h.block i hi hne)⟩
set_option maxHeartbeats 1600000 in
set_option maxRecDepth 100000 in
theorem hrNum_any (s : ByteArray) (a e n : Nat) (hn : a + n = e) (hs : s.size ≤ 100000) (he : e ≤ s.size) (c B : Nat) (q : Bool) (w : World) (hc : w.cell? ⟨c, 0, none⟩ = some (.string s)) (hb : Boxed w B 4 (.bool q)) :
    Calls Tryz.prog 74 #[.int .i64 (a : Int), .int .i64 (n : Int), .pointer (some ⟨c, 0, none⟩), .pointer (some ⟨B, 0, none⟩)] w fun r w' =>
      r = .returned (.int .i64 (numVal (s.extract a e))) ∧ Boxed w' B 4 (.bool (q || !(numErr (s.extract a e) == 0))) ∧ w.grownBy w' (some B) := by
  have C2 := Lib.hid (fun w => refRead_any (s.extract a e) w (by rw [ByteArray.size_extract]; omega))
  have hl := hb.lt
  have h1 : a ≤ e := by omega
  have h2 : (a : Int) + (n : Int) = (e : Int) := by omega
  have h3 := Lib.hid hn
  clear hn
  have hd : Hid ((!(numErr (s.extract a e) == 0)) = (numErr (s.extract a e) != 0)) := Lib.hid rfl
  generalize numVal (s.extract a e) = v at *
  generalize numErr (s.extract a e) = k at *
  cases q with
  | true =>
    go_enter Tryz.func74, Tryz.ntmps74
    go_wp2_with fail
    refine (C2.out _).mono ?_; rintro r w1 ⟨rfl, hx1⟩
    have hb1 : Boxed w1 B 4 (.bool true) := (hx1.block B hl).trans hb
    have hc1 := hb1.cell
    have hf1 := hb1.frozen
    have hl1 := hb1.lt
    go_wp2_with fail
    go_ret
    exact ⟨rfl, hb1.set _, grown_set (grown_ext hx1 _) _⟩
  | false =>
    rw [Bool.false_or, hd.out]
    go_enter Tryz.func74, Tryz.ntmps74
    go_wp2_with fail
    refine (C2.out _).mono ?_; rintro r w1 ⟨rfl, hx1⟩
    have hb1 : Boxed w1 B 4 (.bool false) := (hx1.block B hl).trans hb
    have hc1 := hb1.cell
    have hf1 := hb1.frozen
    have hl1 := hb1.lt
    go_wp2_with fail
    go_ret
    exact ⟨rfl, hb1.set _, grown_set (grown_ext hx1 _) _⟩
end Go.Proofs.YtiiaoagobjgkiaaGreatDoor
