/-
  The reference's HeadWrite: its walk, over what its closures give (written by headref.py).
-/
import Derived.Test.YtbofobakphlpbaaGreatDoorHeadJ
import Derived.Test.YtbofobakphlpbaaGreatDoorDetF
import Derived.Test.YtbofobakphlpbaaGreatDoorSeal
import Derived.Test.YtbofobakphlpbaaGreatDoorBinRef
namespace Go.Proofs.YtbofobakphlpbaaGreatDoor
open Go.RowKit Go.WideShapes Go.PlainAid

theorem HasMax.below {w w' : World} {B : Nat} (h : HasMax w) (hE : Below B w w') (hB : w.heap.size ≤ B) : HasMax w' := by
  obtain ⟨m, hm⟩ := h
  have hl := World.block_lt_of_cell? w _ hm
  have hl' : (⟨1, 0, none⟩ : Addr).block < w.heap.size := hl
  exact ⟨m, (Below.cell (p := ⟨1, 0, none⟩) hE (Nat.lt_of_lt_of_le hl' hB)).trans hm⟩

/-- In a region of the reference's HeadWrite: the flag, and nothing below it has turned. -/
def HS (W0 : World) (B : Nat) (b : Bool) (W : World) : Prop := Boxed W B 4 (.bool (!b)) ∧ Below B W0 W
/-- What the text closure gives. -/
abbrev TextC (W0 : World) (B : Nat) (s : ByteArray) (n : Int) (p : ByteArray) (h : Bool) : Prop :=
  ∀ b W, HS W0 B b W → Calls Tryz.prog 53 #[.string s, .int .i64 n, .pointer (some ⟨B, 0, none⟩)] W fun e W' => e = .returned (.string p) ∧ HS W0 B (b || h) W'
abbrev NumC (W0 : World) (A B : Nat) (v : Int) (n : Int) (p : ByteArray) (h : Bool) : Prop :=
  ∀ b W, HS W0 B b W → Calls Tryz.prog 56 #[.int .i64 v, .int .i64 n, .pointer (some ⟨A, 0, none⟩), .pointer (some ⟨B, 0, none⟩)] W fun e W' => e = .returned (.string p) ∧ HS W0 B (b || h) W'
theorem textC (W0 : World) (B : Nat) (s : ByteArray) (n : Nat) (hs : s.size ≤ 100000) (hn : n ≤ 1000) (hB : ∀ w', Below B W0 w' → HasMax w') :
    TextC W0 B s (n : Int) (if fitS s n then padV s n else ⟨#[]⟩) (!fitS s n) := fun b W h =>
  (pad_any s n B (!b) W hs hn (hB W h.2) h.1).mono fun e W' ⟨h1, h2, h3⟩ => ⟨h1, by rw [show (!(b || !fitS s n)) = (!b && fitS s n) by simp]; exact h2, h.2.trans h3⟩
theorem numC (W0 : World) (A B : Nat) (v n f k : Int) (t : ByteArray) (hA : A < B) (ha : W0.heap[A]? = some (.cells #[.int .i64 f] 3 (0, 0)))
    (C1 : ∀ w, Calls Tryz.prog 57 #[.int .i64 v, .int .i64 n, .bool (f == 3)] w fun e w' => e = .returned (.tuple #[.string t, .int .i64 k]) ∧ Ext w w') :
    NumC W0 A B v n t (!(k == 0)) := fun b W h =>
  (num_any v n f k t A B (!b) W ((h.2.block A hA).trans ha) h.1 C1).mono fun e W' ⟨h1, h2, h3⟩ => ⟨h1, by rw [show (!(b || !(k == 0))) = (!b && (k == 0)) by simp]; exact h2, h.2.trans h3⟩
theorem HS.drew {W0 W : World} {B : Nat} {b : Bool} (h : HS W0 B b W) : HS W0 B b W.drew := ⟨h.1, h.2.drew⟩
theorem HS.ext {W0 W W' : World} {B : Nat} {b : Bool} (h : HS W0 B b W) (hE : Ext W W') : HS W0 B b W' := ⟨(hE.block B h.1.lt).trans h.1, h.2.trans (below_le (Nat.le_of_lt h.1.lt) hE)⟩
theorem three (w : World) (a b c : Obj) : (((w.alloc a).alloc b).alloc c).heap[w.heap.size]? = some a ∧ (((w.alloc a).alloc b).alloc c).heap[w.heap.size + 1]? = some b ∧ (((w.alloc a).alloc b).alloc c).heap[w.heap.size + 1 + 1]? = some c := by
  have s1 : (w.alloc a).heap.size = w.heap.size + 1 := by simp
  have s2 : ((w.alloc a).alloc b).heap.size = w.heap.size + 1 + 1 := by simp
  have h0 := heap_alloc_new w a
  have h1 := heap_alloc_new (w.alloc a) b
  have h2 := heap_alloc_new ((w.alloc a).alloc b) c
  have x1 : Ext (w.alloc a) ((w.alloc a).alloc b) := (Ext.refl _).alloc _
  have x2 : Ext ((w.alloc a).alloc b) (((w.alloc a).alloc b).alloc c) := (Ext.refl _).alloc _
  rw [s1] at h1
  rw [s2] at h2
  exact ⟨(x2.block _ (by omega)).trans ((x1.block _ (by omega)).trans h0), (x2.block _ (by omega)).trans h1, h2⟩

theorem rep16 (w : World) : Calls Tryz.prog 55 #[.string ⟨#[0]⟩, .int .i64 16] w fun e w' => e = .returned (.string z16V) ∧ Ext w w' :=
  (Tryz.strings_Repeat ⟨#[0]⟩ 16 w (by omega) (by show 1 * _ ≤ _; omega)).mono fun e w' h => h
theorem rep12 (w : World) : Calls Tryz.prog 55 #[.string ⟨#[0]⟩, .int .i64 12] w fun e w' => e = .returned (.string z12V) ∧ Ext w w' :=
  (Tryz.strings_Repeat ⟨#[0]⟩ 12 w (by omega) (by show 1 * _ ≤ _; omega)).mono fun e w' h => h
theorem cell_at {w : World} {b o : Nat} {a : Array Value} {t : TypeId} {v : Value} (h : w.heap[b]? = some (.cells a t (0, 0))) (hv : a[o]? = some v) : w.cell? ⟨b, o, none⟩ = some v := by
  simp [World.cell?, h, hv]
end Go.Proofs.YtbofobakphlpbaaGreatDoor
