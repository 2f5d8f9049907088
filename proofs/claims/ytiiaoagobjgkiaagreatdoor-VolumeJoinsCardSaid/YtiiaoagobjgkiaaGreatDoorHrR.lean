/-
  The reference's HeadRead: what its closures keep (written by hrrgen.py). No conditions but the text's length.
-/
import Derived.Test.YtiiaoagobjgkiaaGreatDoorHrC
import Derived.Test.YtiiaoagobjgkiaaGreatDoorHrP
import Derived.Test.YtiiaoagobjgkiaaGreatDoorDetA
namespace Go.Proofs.YtiiaoagobjgkiaaGreatDoor
open Go.RowKit Go.WideShapes Go.PlainAid

theorem grown_trans' {a b c : World} {B : Nat} (h : a.grownBy b (some B)) (k : b.grownBy c (some B)) : a.grownBy c (some B) :=
  ⟨k.os.trans h.os, k.tape.trans h.tape, k.output.trans h.output, Nat.le_trans h.size k.size, fun i hi hne => (k.block i (Nat.lt_of_lt_of_le hi h.size) hne).trans (h.block i hi hne)⟩
/-- In the region of the reference's HeadRead: the flag; nothing that stood has turned but the flag's box; the new block. -/
def HRS (W0 : World) (B : Nat) (b : Bool) (p : Option Value) (W : World) : Prop :=
  Boxed W B 4 (.bool b) ∧ W0.grownBy W (some B) ∧ ∀ u, p = some u → ∃ g, u = .pointer (some ⟨g, 0, none⟩) ∧ W0.heap.size ≤ g ∧ W.heap[g]? = some (.cells (rowRaw noX 0 noN) 75 (0, 0))
/-- Behind it: the block with the fields so far. -/
def HRT (W0 : World) (B g : Nat) (b : Bool) (C : Array Value) (W : World) : Prop :=
  Boxed W B 4 (.bool b) ∧ W0.grownBy W (some B) ∧ W0.heap.size ≤ g ∧ W.heap[g]? = some (.cells C 75 (0, 0))
section
variable {W0 W W' : World} {B : Nat} {b : Bool} {p : Option Value}
theorem HRS.drew (h : HRS W0 B b p W) : HRS W0 B b p W.drew := ⟨h.1, ⟨h.2.1.os, h.2.1.tape, h.2.1.output, h.2.1.size, h.2.1.block⟩, h.2.2⟩
theorem HRS.step (hB : B < W0.heap.size) (h : HRS W0 B b p W) (b' : Bool) (hb : Boxed W' B 4 (.bool b')) (hg : W.grownBy W' (some B)) : HRS W0 B b' p W' :=
  ⟨hb, grown_trans' h.2.1 hg, fun u hu => by
    obtain ⟨g, e, hl, hr⟩ := h.2.2 u hu
    exact ⟨g, e, hl, (hg.block g (lt_of_block hr) (by intro e; injection e with e; omega)).trans hr⟩⟩
theorem HRT.step {g : Nat} {C : Array Value} (hB : B < W0.heap.size) (h : HRT W0 B g b C W) (b' : Bool) (hb : Boxed W' B 4 (.bool b')) (hg : W.grownBy W' (some B)) : HRT W0 B g b' C W' :=
  ⟨hb, grown_trans' h.2.1 hg, h.2.2.1, (hg.block g (lt_of_block h.2.2.2) (by intro e; injection e with e; have := h.2.2.1; omega)).trans h.2.2.2⟩
theorem HRT.set {g : Nat} {C : Array Value} (hB : B < W0.heap.size) (h : HRT W0 B g b C W) (i : Nat) (v : Value) : HRT W0 B g b (C.setIfInBounds i v) (W.setCell ⟨g, i, none⟩ v) := by
  have hl := h.2.2.1
  refine ⟨(Below.heap_setCell W ⟨g, i, none⟩ v B (by show B ≠ g; omega)).trans h.1, ⟨h.2.1.os, h.2.1.tape, h.2.1.output, by simpa [World.setCell] using h.2.1.size, fun i hi hne => ?_⟩, hl, cells_setCell h.2.2.2⟩
  exact (Below.heap_setCell W ⟨g, _, none⟩ v i (by show i ≠ g; omega)).trans (h.2.1.block i hi hne)
theorem HRS.made {g : Nat} (hB : B < W0.heap.size) (h : HRS W0 B b p W) (hl : W0.heap.size ≤ g) (hr : W.heap[g]? = some (.cells (rowRaw noX 0 noN) 75 (0, 0))) (C : Array Value) : HRT W0 B g b C (W.setRow g C) := by
  have hb := below_setRow (Below.refl g W) (Nat.le_refl g) C
  have hx := fun i (hi : i < g) => hb.block i hi
  refine ⟨(hx B (by omega)).trans h.1, ⟨h.2.1.os, h.2.1.tape, h.2.1.output, Nat.le_trans h.2.1.size hb.size, fun i hi hne => (hx i (by omega)).trans (h.2.1.block i hi hne)⟩, hl, setRow_heap _ _ _ _ _ _ hr⟩
end
/-- What the text closure gives, and the number's. -/
abbrev RTextC (W0 : World) (c B : Nat) (a n : Int) (t : ByteArray) : Prop :=
  ∀ b p W, HRS W0 B b p W → Calls Tryz.prog 72 #[.int .i64 a, .int .i64 n, .pointer (some ⟨c, 0, none⟩)] W fun e W' => e = .returned (.string t) ∧ HRS W0 B (b || false) p W'
abbrev RNumC (W0 : World) (c B : Nat) (a n : Int) (v : Int) (h : Bool) : Prop :=
  ∀ b p W, HRS W0 B b p W → Calls Tryz.prog 74 #[.int .i64 a, .int .i64 n, .pointer (some ⟨c, 0, none⟩), .pointer (some ⟨B, 0, none⟩)] W fun e W' => e = .returned (.int .i64 v) ∧ HRS W0 B (b || h) p W'
abbrev QTextC (W0 : World) (c B : Nat) (a n : Int) (t : ByteArray) : Prop :=
  ∀ g b C W, HRT W0 B g b C W → Calls Tryz.prog 72 #[.int .i64 a, .int .i64 n, .pointer (some ⟨c, 0, none⟩)] W fun e W' => e = .returned (.string t) ∧ HRT W0 B g b C W'
abbrev QNumC (W0 : World) (c B : Nat) (a n : Int) (v : Int) (h : Bool) : Prop :=
  ∀ g b C W, HRT W0 B g b C W → Calls Tryz.prog 74 #[.int .i64 a, .int .i64 n, .pointer (some ⟨c, 0, none⟩), .pointer (some ⟨B, 0, none⟩)] W fun e W' => e = .returned (.int .i64 v) ∧ HRT W0 B g (b || h) C W'
theorem grown_cell {W0 : World} {c B : Nat} {s : ByteArray} (hne : c ≠ B) (hc : Boxed W0 c 9 (.string s)) {W : World} (h : W0.grownBy W (some B)) : W.cell? ⟨c, 0, none⟩ = some (.string s) :=
  Boxed.cell ((h.block c hc.lt (by intro e; injection e with e; exact hne e)).trans hc)
theorem grown_max {W0 : World} {B : Nat} (hm : HasMax W0) (hmB : 1 ≠ B) {W : World} (h : W0.grownBy W (some B)) : HasMax W := by
  obtain ⟨m, hm⟩ := hm
  have hl := World.block_lt_of_cell? W0 _ hm
  have hl' : 1 < W0.heap.size := hl
  exact ⟨m, (World.cell?_of_block (a := ⟨1, 0, none⟩) (h.block 1 hl' (by intro e; injection e with e; exact hmB e))).trans hm⟩
theorem rNumC {W0 : World} {c B : Nat} {s : ByteArray} (hB : B < W0.heap.size) (hne : c ≠ B) (hc : Boxed W0 c 9 (.string s)) (hs : s.size ≤ 100000) (a e n : Nat) (hn : a + n = e) (he : e ≤ s.size) : RNumC W0 c B a n (numVal (s.extract a e)) (!(numErr (s.extract a e) == 0)) := fun b _ W h =>
  (hrNum_any s a e n hn hs he c B b W (grown_cell hne hc h.2.1) h.1).mono fun _ _ ⟨h1, h2, h3⟩ => ⟨h1, h.step hB _ h2 h3⟩
theorem qNumC {W0 : World} {c B : Nat} {s : ByteArray} (hB : B < W0.heap.size) (hne : c ≠ B) (hc : Boxed W0 c 9 (.string s)) (hs : s.size ≤ 100000) (a e n : Nat) (hn : a + n = e) (he : e ≤ s.size) : QNumC W0 c B a n (numVal (s.extract a e)) (!(numErr (s.extract a e) == 0)) := fun _ b _ W h =>
  (hrNum_any s a e n hn hs he c B b W (grown_cell hne hc h.2.1) h.1).mono fun _ _ ⟨h1, h2, h3⟩ => ⟨h1, h.step hB _ h2 h3⟩
theorem rTextC {W0 : World} {c B : Nat} {s : ByteArray} (hB : B < W0.heap.size) (hne : c ≠ B) (hc : Boxed W0 c 9 (.string s)) (hm : HasMax W0) (hmB : 1 ≠ B) (hs : s.size ≤ 100000) (a e n : Nat) (hn : a + n = e) (he : e ≤ s.size) : RTextC W0 c B a n (cutZ (s.extract a e)) := fun _ _ W h =>
  (hrText_any s a e n hn hs he c W (grown_cell hne hc h.2.1) (grown_max hm hmB h.2.1)).mono fun _ _ ⟨h1, h2⟩ => ⟨h1, by
    rw [Bool.or_false]
    exact h.step hB _ ((h2.block B h.1.lt).trans h.1) (grown_ext h2 _)⟩
theorem qTextC {W0 : World} {c B : Nat} {s : ByteArray} (hB : B < W0.heap.size) (hne : c ≠ B) (hc : Boxed W0 c 9 (.string s)) (hm : HasMax W0) (hmB : 1 ≠ B) (hs : s.size ≤ 100000) (a e n : Nat) (hn : a + n = e) (he : e ≤ s.size) : QTextC W0 c B a n (cutZ (s.extract a e)) := fun _ _ _ W h =>
  (hrText_any s a e n hn hs he c W (grown_cell hne hc h.2.1) (grown_max hm hmB h.2.1)).mono fun _ _ ⟨h1, h2⟩ => ⟨h1, h.step hB _ ((h2.block B h.1.lt).trans h.1) (grown_ext h2 _)⟩
/-- What a header that is not read gives. -/
def badQ (k : Int) : Value := .tuple #[.agg (rowRaw noX 0 noN), .int .i64 0, .int .i64 k]
theorem qInfo : (Tryz.prog.info? 75).map (·.size) = some 13 := by kernel_rfl
theorem results_rawQ {w : World} {g : Nat} {cs : Array Value} {tmps : Array Value} {b c : Value} (hp : tmps.getD 2 undef = .pointer (some ⟨g, 0, none⟩)) (h3 : tmps.getD 3 undef = b) (h4 : tmps.getD 4 undef = c) (hn : cs.size = 13) (hg : w.heap[g]? = some (.cells cs 75 (0, 0))) :
    (results Tryz.f37 tmps).run Tryz.prog w = .ok (.tuple #[.agg cs, b, c]) w := by
  have hp' : tmps[2]?.getD undef = .pointer (some ⟨g, 0, none⟩) := by simpa using hp
  have h3' : tmps[3]?.getD undef = b := by simpa using h3
  have h4' : tmps[4]?.getD undef = c := by simpa using h4
  simp [results, Tryz.results37, hp', h3', h4', asAddr, run_loadVar_row w g 75 75 cs (0, 0) _ hg Tryz.underlying75 rfl (by rw [hn]; exact qInfo)]
theorem two_at (w : World) (a b : Obj) : ((w.alloc a).alloc b).heap[w.heap.size]? = some a ∧ ((w.alloc a).alloc b).heap[w.heap.size + 1]? = some b := by
  have s1 : (w.alloc a).heap.size = w.heap.size + 1 := by simp
  have h1 := World.alloc_heap_new (w.alloc a) b
  rw [s1] at h1
  exact ⟨(((Ext.refl (w.alloc a)).alloc b).block _ (by omega)).trans (World.alloc_heap_new w a), h1⟩
end Go.Proofs.YtiiaoagobjgkiaaGreatDoor
