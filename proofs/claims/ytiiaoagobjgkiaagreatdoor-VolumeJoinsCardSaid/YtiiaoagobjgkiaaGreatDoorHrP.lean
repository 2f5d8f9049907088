/-
  head.Read: its walk (written by hrgen.py). No conditions but the text's length.
-/
import Derived.Test.YtiiaoagobjgkiaaGreatDoorHrV
import Derived.Laws.Tables
import Derived.Laws.Rows
import Derived.Laws.CopyOwn
import Derived.RangeFuncBox
import Derived.Deep.OwnRows
import Derived.Lib.SlBytesConst
import Derived.StillTailTactics
import Derived.LaidEql
namespace Go.Proofs.YtiiaoagobjgkiaaGreatDoor
open Go.RowKit Go.WideShapes Go.PlainAid

/-- A header's cells. -/
def rowRaw (X : Nat → ByteArray) (kd : Int) (N : Nat → Int) : Array Value := #[.string (X 0), .string (X 1), .string (X 2), .string (X 3), .string (X 4), .int .u8 kd, .int .i64 (N 0), .int .i64 (N 1), .int .i64 (N 2), .int .i64 (N 3), .int .i64 (N 4), .int .i64 (N 5), .int .i64 (N 6)]
def upT (T : Nat → ByteArray) (k : Nat) : Nat → ByteArray := fun j => if j < k then T j else ⟨#[]⟩
def upN (NV : Nat → Int) (k : Nat) : Nat → Int := fun j => if j < k then NV j else 0
theorem rowRaw_N (X : Nat → ByteArray) (kd : Int) (NV : Nat → Int) (k : Nat) (hk : k < 7) : (rowRaw X kd (upN NV k)).setIfInBounds (6 + k) (.int .i64 (NV k)) = rowRaw X kd (upN NV (k + 1)) := by
  rcases (show k = 0 ∨ k = 1 ∨ k = 2 ∨ k = 3 ∨ k = 4 ∨ k = 5 ∨ k = 6 by omega) with rfl | rfl | rfl | rfl | rfl | rfl | rfl <;> rfl
theorem rowRaw_T (T : Nat → ByteArray) (kd : Int) (N : Nat → Int) (k : Nat) (hk : k < 5) : (rowRaw (upT T k) kd N).setIfInBounds k (.string (T k)) = rowRaw (upT T (k + 1)) kd N := by
  rcases (show k = 0 ∨ k = 1 ∨ k = 2 ∨ k = 3 ∨ k = 4 by omega) with rfl | rfl | rfl | rfl | rfl <;> rfl
def noX : Nat → ByteArray := fun _ => ⟨#[]⟩
def noN : Nat → Int := fun _ => 0
/-- What a header that is not read gives. -/
def badR (k : Int) : Value := .tuple #[.agg (rowRaw noX 0 noN), .int .i64 0, errOf k]
/-- The texts of a dialect. -/
def finT (T : Nat → ByteArray) (d : Int) : Nat → ByteArray := fun j => if (j = 2 ∨ j = 3) ∧ d = 1 then ⟨#[]⟩ else if j = 4 ∧ d ≠ 2 then ⟨#[]⟩ else T j
def headM (d : Int) : Nat := if d = 1 then 5 else 7
def headK (s : ByteArray) : Int := if bt s 156 = 0 then 48 else bt s 156
set_option maxRecDepth 100000 in
theorem idxPn : (∀ (a0 a1 a2 a3 a4 a5 a6 : Value) (w : World), (Instr.index 176 (.agg #[a0, a1, a2, a3, a4, a5, a6]) (.int .i64 0)).run Tryz.prog w = .ok a0 w) ∧ (∀ (a0 a1 a2 a3 a4 a5 a6 : Value) (w : World), (Instr.index 176 (.agg #[a0, a1, a2, a3, a4, a5, a6]) (.int .i64 1)).run Tryz.prog w = .ok a1 w) ∧ (∀ (a0 a1 a2 a3 a4 a5 a6 : Value) (w : World), (Instr.index 176 (.agg #[a0, a1, a2, a3, a4, a5, a6]) (.int .i64 2)).run Tryz.prog w = .ok a2 w) ∧ (∀ (a0 a1 a2 a3 a4 a5 a6 : Value) (w : World), (Instr.index 176 (.agg #[a0, a1, a2, a3, a4, a5, a6]) (.int .i64 3)).run Tryz.prog w = .ok a3 w) ∧ (∀ (a0 a1 a2 a3 a4 a5 a6 : Value) (w : World), (Instr.index 176 (.agg #[a0, a1, a2, a3, a4, a5, a6]) (.int .i64 4)).run Tryz.prog w = .ok a4 w) ∧ (∀ (a0 a1 a2 a3 a4 a5 a6 : Value) (w : World), (Instr.index 176 (.agg #[a0, a1, a2, a3, a4, a5, a6]) (.int .i64 5)).run Tryz.prog w = .ok a5 w) ∧ (∀ (a0 a1 a2 a3 a4 a5 a6 : Value) (w : World), (Instr.index 176 (.agg #[a0, a1, a2, a3, a4, a5, a6]) (.int .i64 6)).run Tryz.prog w = .ok a6 w) := by
  refine ⟨?_, ?_, ?_, ?_, ?_, ?_, ?_⟩ <;> (intros; kernel_rfl)

theorem rawInfo : (Tryz.prog.info? 82).map (·.size) = some 13 := by kernel_rfl
theorem rowRaw_one (X : Nat → ByteArray) (kd : Int) (N : Nat → Int) : (rowRaw X kd N).all (·.oneCell') = true := by simp [rowRaw, Value.oneCell']
theorem rowRaw_cells (X : Nat → ByteArray) (kd : Int) (N : Nat → Int) {w : World} {g : Nat} {t : TypeId} (h : w.heap[g]? = some (.cells (rowRaw X kd N) t (0, 0))) :
    (∀ k, k < 5 → w.cell? ⟨g, k, none⟩ = some (.string (X k))) ∧ w.cell? ⟨g, 5, none⟩ = some (.int .u8 kd) ∧ (∀ k, k < 7 → w.cell? ⟨g, 6 + k, none⟩ = some (.int .i64 (N k))) ∧ (∀ o, w.frozen? ⟨g, o, none⟩ = false) := by
  refine ⟨fun k hk => ?_, ?_, fun k hk => ?_, fun o => by simp [World.frozen?, h]⟩
  · rcases (show k = 0 ∨ k = 1 ∨ k = 2 ∨ k = 3 ∨ k = 4 by omega) with rfl | rfl | rfl | rfl | rfl <;> simp [World.cell?, h, rowRaw]
  · simp [World.cell?, h, rowRaw]
  · rcases (show k = 0 ∨ k = 1 ∨ k = 2 ∨ k = 3 ∨ k = 4 ∨ k = 5 ∨ k = 6 by omega) with rfl | rfl | rfl | rfl | rfl | rfl | rfl <;> simp [World.cell?, h, rowRaw]

set_option maxHeartbeats 4000000 in
set_option maxRecDepth 100000 in
theorem headRead_size (s : ByteArray) (_hs : s.size ≤ 100000) (h : s.size ≠ 512) (w : World) : Calls Tryz.prog 78 #[.string s] w fun e w' => e = .returned (badR 3) ∧ Ext w w' := by
  have q : ((s.size : Int) != 512) = true := by simp; omega
  clear h
  go_enter Tryz.func78, Tryz.ntmps78
  go_wp2_with fail
  go_returns
  exact ⟨rfl, (by show Below _ _ _; repeat' (first | (with_reducible exact Below.refl _ _) | (with_reducible assumption) | (with_reducible refine belowDrewN ?_ _) | (with_reducible refine Below.alloc ?_ ?_ _) | (with_reducible refine Below.drew ?_) | (with_reducible refine Below.setCell ?_ ?_ _) | go_size))⟩
theorem results_raw {w : World} {g : Nat} {cs : Array Value} {tmps : Array Value} {b c : Value} (hp : tmps.getD 2 undef = .pointer (some ⟨g, 0, none⟩)) (h3 : tmps.getD 3 undef = b) (h4 : tmps.getD 4 undef = c) (hn : cs.size = 13) (hg : w.heap[g]? = some (.cells cs 82 (0, 0))) :
    (results Tryz.f78 tmps).run Tryz.prog w = .ok (.tuple #[.agg cs, b, c]) w := by
  have hp' : tmps[2]?.getD undef = .pointer (some ⟨g, 0, none⟩) := by simpa using hp
  have h3' : tmps[3]?.getD undef = b := by simpa using h3
  have h4' : tmps[4]?.getD undef = c := by simpa using h4
  simp [results, Tryz.results78, hp', h3', h4', asAddr, run_loadVar_row w g 82 82 cs (0, 0) _ hg Tryz.underlying82 rfl (by rw [hn]; exact rawInfo)]
set_option maxHeartbeats 4000000 in
set_option maxRecDepth 100000 in
theorem headRead_sum (s : ByteArray) (h : s.size = 512) (hb : headB s = false) (w : World) : Calls Tryz.prog 78 #[.string s] w fun e w' => e = .returned (badR 15) ∧ Ext w w' := by
  have C := fun w => blockRight_any s w (by omega)
  rw [hb] at C
  have CB := Lib.hid C
  clear C hb
  have q : ((s.size : Int) != 512) = false := by simp; omega
  clear h
  go_enter Tryz.func78, Tryz.ntmps78
  go_wp2_with fail
  refine (CB.out _).mono ?_; rintro e w1 ⟨rfl, hx1⟩
  have hR0 : w1.heap[w.heap.size]? = some (.cells (rowRaw noX 0 noN) 82 (0, 0)) := (hx1.block _ (by simp)).trans (World.alloc_heap_new w _)
  have hxw : Ext w w1 := ((Ext.refl w).alloc _).trans hx1
  have HR0 := Lib.hid hR0
  clear hR0
  go_wp2_with (refine wpList_store_row rfl 82 (.tmp 2) (.tmp 23) rfl w.heap.size (rowRaw noX 0 noN) rfl rfl 82 _ HR0.out rawInfo rfl (rowRaw_one _ _ _) ?_)
  exact bodyPost_ret (v := badR 15) (results_raw (by rfl) (by rfl) (by rfl) rfl (setRow_heap w1 w.heap.size _ _ _ _ HR0.out)) rfl ⟨rfl, below_setRow hxw (Nat.le_refl _) _⟩
end Go.Proofs.YtiiaoagobjgkiaaGreatDoor
