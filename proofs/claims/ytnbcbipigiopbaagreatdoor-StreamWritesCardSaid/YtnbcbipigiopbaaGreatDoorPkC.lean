/-
  Tell, Place and 'bare' at the errors that are nil or an Errno. After the laid variable errors.errorType.
-/
import Derived.Test.YtnbcbipigiopbaaGreatDoorAs
import Derived.Test.YtnbcbipigiopbaaGreatDoorPkB
import Derived.PlainAid
import Derived.Test.YtnbcbipigiopbaaGreatDoorPkA
import Derived.Laws.AppendOwn
import Derived.Lib.SplitLaws
import Derived.Lib.Join
import Derived.Test.YtnbcbipigiopbaaGreatDoorShelf
import Derived.Shelf.SlicesE.DeleteFunc
import Derived.Laws.IdiomStrings
import Derived.Deep.OwnRows
import Derived.IntWalk
import Derived.LaidEql
import Derived.Laws.CopyOwn
import Derived.Lib.SlBytesConst
import Derived.Lib.BufferWrite
import Derived.StillTailTactics
namespace Go.Proofs.YtnbcbipigiopbaaGreatDoor
open Go.RowKit Go.Stop

/-- What the laid variable gives every walk. -/
def HasHandle (w : World) : Prop := w.cell? ⟨0, 0, none⟩ = some (.iface 197 (.agg #[.pointer (some ⟨7, 39, none⟩)]))

theorem HasHandle.lt {w : World} (h : HasHandle w) : 0 < w.heap.size := World.block_lt_of_cell? w _ h
theorem bcellOld {w w' : World} {a : Addr} (e : Ext w w') (h : a.block < w.heap.size) : w'.cell? a = w.cell? a := by
  simp only [World.cell?, Below.block e a.block h]
theorem HasHandle.ext {w w' : World} (h : HasHandle w) (e : Ext w w') : HasHandle w' := by
  have := h.lt
  unfold HasHandle at *
  rw [← h]; exact bcellOld e this

@[go_sem] theorem as_errno_at (v : Value) (w : World) : (Instr.typeAssert (.iface 33 v) 39 65 true).run Tryz.prog w = .ok (.tuple #[.pointer none, .bool false]) w := by kernel_rfl
@[go_sem] theorem as_at_at (v : Value) (w : World) : (Instr.typeAssert (.iface 65 v) 39 65 true).run Tryz.prog w = .ok (.tuple #[v, .bool true]) w := by kernel_rfl
@[go_sem] theorem as_errno_unwrap (v : Value) (w : World) : (Instr.typeAssert (.iface 33 v) 39 114 true).run Tryz.prog w = .ok (.tuple #[.nilIface, .bool false]) w :=
  run_typeAssert_lacksB Tryz.underlying114 (by kernel_rfl) (by kernel_rfl) v _ w

theorem tell_nil (w : World) : Calls Tryz.prog 27 #[.nilIface] w fun e w' => e = .returned (.int .i64 0) ∧ w' = w := by
  go_enter Tryz.func27, Tryz.ntmps27
  go_wp2
  go_ret
  exact ⟨rfl, rfl⟩

set_option maxHeartbeats 4000000 in
theorem tell_errno (k : Int) (w : World) (hg : HasHandle w) : Calls Tryz.prog 27 #[.iface 33 (.int .i64 k)] w fun e w' => e = .returned (.int .i64 k) ∧ Ext w w' := by
  have hA : HasHandle (w.alloc (.cells #[.int .i64 0] 33)) := hg.ext (Ext.alloc (Ext.refl w) _)
  go_enter Tryz.func27, Tryz.ntmps27
  go_wp2_with ((refine (as_hit k _ (.int .i64 0) _ hA (by simp) (by simp)).mono ?_); rintro e w' ⟨rfl, rfl⟩)
  go_ret
  refine ⟨rfl, (by show Below _ _ _; repeat' (first | (with_reducible exact Below.refl _ _) | (with_reducible assumption) | (with_reducible refine belowDrewN ?_ _) | (with_reducible refine Below.alloc ?_ ?_ _) | (with_reducible refine Below.drew ?_) | (with_reducible refine Below.setCell ?_ ?_ _) | go_size))⟩

theorem place_nil (w : World) : Calls Tryz.prog 29 #[.nilIface] w fun e w' => e = .returned (.tuple #[.int .i64 0, .int .i64 (-1)]) ∧ w' = w := by
  go_enter Tryz.func29, Tryz.ntmps29
  go_wp2_with ((refine (tell_nil _).mono ?_); rintro e w' ⟨rfl, rfl⟩)
  refine wp_loop_rounds 1 ?_
  rw [rounds_succ]
  go_wp2
  go_ret2
  exact ⟨rfl, rfl⟩
theorem place_errno (k : Int) (w : World) (hg : HasHandle w) : Calls Tryz.prog 29 #[.iface 33 (.int .i64 k)] w fun e w' => e = .returned (.tuple #[.int .i64 k, .int .i64 (-1)]) ∧ Ext w w' := by
  go_enter Tryz.func29, Tryz.ntmps29
  go_wp2_with ((refine (tell_errno k _ hg).mono ?_); rintro e w' ⟨rfl, hx⟩)
  refine wp_loop_rounds 1 ?_
  rw [rounds_succ]
  go_wp2
  go_ret2
  exact ⟨rfl, hx⟩

/-- The two errors that such a function gives: nil for 0, an Errno else. -/
def errOf (k : Int) : Value := if k = 0 then .nilIface else .iface 33 (.int .i64 k)

theorem place_errOf (k : Int) (w : World) (hg : HasHandle w) : Calls Tryz.prog 29 #[errOf k] w fun e w' => e = .returned (.tuple #[.int .i64 k, .int .i64 (-1)]) ∧ Ext w w' := by
  unfold errOf
  split
  · rename_i h; subst h
    exact (place_nil w).mono fun e w' ⟨h, k⟩ => ⟨h, by subst k; exact Ext.refl _⟩
  · exact place_errno k w hg

theorem bare_any (k e : Int) (w : World) (hg : HasHandle w) : Calls Tryz.prog 19 #[errOf k, .int .i64 e] w fun r w' => r = .returned (.bool (k == e)) ∧ Ext w w' := by
  generalize hv : errOf k = v
  go_enter Tryz.func19, Tryz.ntmps19
  go_wp2_with ((subst hv; refine (place_errOf k _ hg).mono ?_); rintro e w' ⟨rfl, hx⟩)
  all_goals go_ret
  all_goals refine ⟨?_, hx⟩
  all_goals (first | rfl | simp_all)
end Go.Proofs.YtnbcbipigiopbaaGreatDoor
/-
  Where a header's fields begin and how long they are; a byte stored into a block of cells; the tables of fields read at a number. No conditions.
-/
namespace Go.Proofs.YtnbcbipigiopbaaGreatDoor
open Go.RowKit Go.WideShapes Go.PlainAid

def tAt : Nat → Nat
  | 0 => 0
  | 1 => 157
  | 2 => 265
  | 3 => 297
  | _ => 345
def tLong : Nat → Nat
  | 0 => 100
  | 1 => 100
  | 2 => 32
  | 3 => 32
  | _ => 155
def nAt : Nat → Nat
  | 0 => 100
  | 1 => 108
  | 2 => 116
  | 3 => 124
  | 4 => 136
  | 5 => 329
  | _ => 337
def nLong : Nat → Nat
  | 3 => 12
  | 4 => 12
  | _ => 8
theorem errOf_ne {k : Int} (h : k ≠ 0) : errOf k = .iface 33 (.int .i64 k) := by unfold errOf; rw [if_neg h]
/-- A byte stored into a block of cells. -/
theorem cells_setCell {w : World} {g i : Nat} {C : Array Value} {t : TypeId} {v : Value} (h : w.heap[g]? = some (.cells C t (0, 0))) : (w.setCell ⟨g, i, none⟩ v).heap[g]? = some (.cells (C.setIfInBounds i v) t (0, 0)) := by
  have hlt := lt_of_block h
  have h' : w.heap[g] = .cells C t (0, 0) := by simpa [Array.getElem?_eq_getElem hlt] using h
  show (w.heap.modify g _)[g]? = _
  rw [Array.getElem?_eq_getElem (by simpa using hlt), Array.getElem_modify_self, h']
  rfl
set_option maxRecDepth 100000 in
theorem idxPs : (∀ (a0 a1 a2 a3 a4 : Value) (w : World), (Instr.index 170 (.agg #[a0, a1, a2, a3, a4]) (.int .i64 0)).run Tryz.prog w = .ok a0 w) ∧ (∀ (a0 a1 a2 a3 a4 : Value) (w : World), (Instr.index 170 (.agg #[a0, a1, a2, a3, a4]) (.int .i64 1)).run Tryz.prog w = .ok a1 w) ∧ (∀ (a0 a1 a2 a3 a4 : Value) (w : World), (Instr.index 170 (.agg #[a0, a1, a2, a3, a4]) (.int .i64 2)).run Tryz.prog w = .ok a2 w) ∧ (∀ (a0 a1 a2 a3 a4 : Value) (w : World), (Instr.index 170 (.agg #[a0, a1, a2, a3, a4]) (.int .i64 3)).run Tryz.prog w = .ok a3 w) ∧ (∀ (a0 a1 a2 a3 a4 : Value) (w : World), (Instr.index 170 (.agg #[a0, a1, a2, a3, a4]) (.int .i64 4)).run Tryz.prog w = .ok a4 w) := by
  refine ⟨?_, ?_, ?_, ?_, ?_⟩ <;> (intros; kernel_rfl)
set_option maxRecDepth 100000 in
theorem idxTs : (∀ (a0 b0 a1 b1 a2 b2 a3 b3 a4 b4 : Value) (w : World), (Instr.index 174 (.agg #[a0, b0, a1, b1, a2, b2, a3, b3, a4, b4]) (.int .i64 0)).run Tryz.prog w = .ok (.agg #[a0, b0]) w) ∧ (∀ (a0 b0 a1 b1 a2 b2 a3 b3 a4 b4 : Value) (w : World), (Instr.index 174 (.agg #[a0, b0, a1, b1, a2, b2, a3, b3, a4, b4]) (.int .i64 1)).run Tryz.prog w = .ok (.agg #[a1, b1]) w) ∧ (∀ (a0 b0 a1 b1 a2 b2 a3 b3 a4 b4 : Value) (w : World), (Instr.index 174 (.agg #[a0, b0, a1, b1, a2, b2, a3, b3, a4, b4]) (.int .i64 2)).run Tryz.prog w = .ok (.agg #[a2, b2]) w) ∧ (∀ (a0 b0 a1 b1 a2 b2 a3 b3 a4 b4 : Value) (w : World), (Instr.index 174 (.agg #[a0, b0, a1, b1, a2, b2, a3, b3, a4, b4]) (.int .i64 3)).run Tryz.prog w = .ok (.agg #[a3, b3]) w) ∧ (∀ (a0 b0 a1 b1 a2 b2 a3 b3 a4 b4 : Value) (w : World), (Instr.index 174 (.agg #[a0, b0, a1, b1, a2, b2, a3, b3, a4, b4]) (.int .i64 4)).run Tryz.prog w = .ok (.agg #[a4, b4]) w) := by
  refine ⟨?_, ?_, ?_, ?_, ?_⟩ <;> (intros; kernel_rfl)
set_option maxRecDepth 100000 in
theorem idxNs : (∀ (a0 b0 a1 b1 a2 b2 a3 b3 a4 b4 a5 b5 a6 b6 : Value) (w : World), (Instr.index 180 (.agg #[a0, b0, a1, b1, a2, b2, a3, b3, a4, b4, a5, b5, a6, b6]) (.int .i64 0)).run Tryz.prog w = .ok (.agg #[a0, b0]) w) ∧ (∀ (a0 b0 a1 b1 a2 b2 a3 b3 a4 b4 a5 b5 a6 b6 : Value) (w : World), (Instr.index 180 (.agg #[a0, b0, a1, b1, a2, b2, a3, b3, a4, b4, a5, b5, a6, b6]) (.int .i64 1)).run Tryz.prog w = .ok (.agg #[a1, b1]) w) ∧ (∀ (a0 b0 a1 b1 a2 b2 a3 b3 a4 b4 a5 b5 a6 b6 : Value) (w : World), (Instr.index 180 (.agg #[a0, b0, a1, b1, a2, b2, a3, b3, a4, b4, a5, b5, a6, b6]) (.int .i64 2)).run Tryz.prog w = .ok (.agg #[a2, b2]) w) ∧ (∀ (a0 b0 a1 b1 a2 b2 a3 b3 a4 b4 a5 b5 a6 b6 : Value) (w : World), (Instr.index 180 (.agg #[a0, b0, a1, b1, a2, b2, a3, b3, a4, b4, a5, b5, a6, b6]) (.int .i64 3)).run Tryz.prog w = .ok (.agg #[a3, b3]) w) ∧ (∀ (a0 b0 a1 b1 a2 b2 a3 b3 a4 b4 a5 b5 a6 b6 : Value) (w : World), (Instr.index 180 (.agg #[a0, b0, a1, b1, a2, b2, a3, b3, a4, b4, a5, b5, a6, b6]) (.int .i64 4)).run Tryz.prog w = .ok (.agg #[a4, b4]) w) ∧ (∀ (a0 b0 a1 b1 a2 b2 a3 b3 a4 b4 a5 b5 a6 b6 : Value) (w : World), (Instr.index 180 (.agg #[a0, b0, a1, b1, a2, b2, a3, b3, a4, b4, a5, b5, a6, b6]) (.int .i64 5)).run Tryz.prog w = .ok (.agg #[a5, b5]) w) ∧ (∀ (a0 b0 a1 b1 a2 b2 a3 b3 a4 b4 a5 b5 a6 b6 : Value) (w : World), (Instr.index 180 (.agg #[a0, b0, a1, b1, a2, b2, a3, b3, a4, b4, a5, b5, a6, b6]) (.int .i64 6)).run Tryz.prog w = .ok (.agg #[a6, b6]) w) := by
  refine ⟨?_, ?_, ?_, ?_, ?_, ?_, ?_⟩ <;> (intros; kernel_rfl)
end Go.Proofs.YtnbcbipigiopbaaGreatDoor
/-
  Slices of texts as lists; sameTexts.
-/
namespace Go.Proofs.YtnbcbipigiopbaaGreatDoor
open Go.RowKit Go.WideShapes

/-- The slice value v holds the texts l. -/
def IsStrs (w : World) (v : Value) (l : List ByteArray) : Prop :=
  ((∃ a c, v = .slice a 0 c) ∧ l = []) ∨ ∃ (b off cap : Nat), v = .slice (some ⟨b, off, none⟩) l.length cap ∧ l.length ≤ cap ∧ cap ≤ maxLen ∧ ∀ k (h : k < l.length), w.cell? ⟨b, off + k, none⟩ = some (.string l[k])

theorem IsStrs.ext {w w' : World} {v : Value} {l : List ByteArray} (h : IsStrs w v l) (hE : Ext w w') : IsStrs w' v l :=
  h.imp id fun ⟨b, off, cap, hv, hn, hm, hc⟩ => ⟨b, off, cap, hv, hn, hm, fun k hk => hE.cell (hc k hk)⟩

/-- The slice, whether it is nil or not. -/
theorem IsStrs.open {w : World} {v : Value} {l : List ByteArray} (h : IsStrs w v l) : ∃ (oa : Option Addr) (cap : Nat), v = .slice oa l.length cap ∧ l.length ≤ maxLen ∧ ∀ k (h : k < l.length), ∃ b off, oa = some ⟨b, off, none⟩ ∧ w.cell? ⟨b, off + k, none⟩ = some (.string l[k]) := by
  rcases h with ⟨⟨a, c, rfl⟩, rfl⟩ | ⟨b, off, cap, rfl, hn, hm, hc⟩
  · exact ⟨a, c, rfl, by simp [maxLen], fun k h => by simp at h⟩
  · exact ⟨some ⟨b, off, none⟩, cap, rfl, by omega, fun k h => ⟨b, off, rfl, hc k h⟩⟩

/-- Without its first text. -/
theorem IsStrs.tail {w : World} {b off cap : Nat} {l : List ByteArray} (h : IsStrs w (.slice (some ⟨b, off, none⟩) l.length cap) l) (hne : 0 < l.length) :
    l.length ≤ cap ∧ ∃ A : Nat, (if cap = 1 then some (⟨b, off, none⟩ : Addr) else some ⟨b, off + 1, none⟩) = some ⟨b, A, none⟩ ∧ IsStrs w (.slice (some ⟨b, A, none⟩) (l.length - 1) (cap - 1)) l.tail := by
  rcases h with ⟨⟨_, _, e⟩, rfl⟩ | ⟨_, _, _, e, hn, hm, hc⟩
  · simp at hne
  · cases e
    refine ⟨hn, ?_⟩
    by_cases hcp : cap = 1
    · refine ⟨off, if_pos hcp, .inl ⟨⟨some ⟨b, off, none⟩, cap - 1, ?_⟩, ?_⟩⟩
      · congr 1; omega
      · rw [← List.length_eq_zero_iff]; simp; omega
    · refine ⟨off + 1, if_neg hcp, .inr ⟨b, off + 1, cap - 1, by simp, by simp; omega, by omega, fun k hk => ?_⟩⟩
      have hk' : k + 1 < l.length := by simp at hk; omega
      have := hc (k + 1) hk'
      rw [List.getElem_tail, ← this]
      congr 2
      omega

theorem IsStrs.ofOwns {w : World} {base : Nat} {v : Value} {l : List ByteArray} (h : w.ownsRow base 9 1 v l.length (l.map Value.string)) : IsStrs w v l := by
  obtain ⟨_, ⟨hv, hn⟩ | ⟨g, cap, cur, hv, hb, hh, hn, hm, hs, ht⟩⟩ := h
  · exact .inl ⟨⟨none, 0, hv⟩, by simpa using hn⟩
  · refine .inr ⟨g, 0, cap, hv, hn, hm, fun k hk => ?_⟩
    have h1 : cur.toList[k]? = some (.string l[k]) := by
      have : (cur.toList.take (l.length * 1))[k]? = (l.map Value.string)[k]? := by rw [ht]
      rw [List.getElem?_take, if_pos (by omega)] at this
      rw [this]; simp [hk]
    simp only [World.cell?, hh, Nat.zero_add]
    simpa using h1

end Go.Proofs.YtnbcbipigiopbaaGreatDoor
/-
  A text cut at its slashes: the pieces as lists of bytes; the parts of a name. Plain Lean: no conditions.
-/
namespace Go.Proofs.YtnbcbipigiopbaaGreatDoor
open Go.Lib

/-- A text, cut at its slashes. -/
def sl : List UInt8 → List (List UInt8)
  | [] => [[]]
  | c :: t => if c = 47 then [] :: sl t else (match sl t with
    | [] => [[c]]
    | h :: r => (c :: h) :: r)
theorem sl_ne : ∀ l, sl l ≠ []
  | [] => by simp [sl]
  | c :: t => by
    unfold sl
    split
    · simp
    · split <;> simp
theorem sl_hit (t : List UInt8) : sl (47 :: t) = [] :: sl t := by simp [sl]
theorem sl_miss {c : UInt8} {t h : List UInt8} {r : List (List UInt8)} (hc : c ≠ 47) (ht : sl t = h :: r) : sl (c :: t) = (c :: h) :: r := by
  rw [sl, if_neg hc, ht]
theorem sl_cases (l : List UInt8) : ∃ h r, sl l = h :: r := by
  cases e : sl l with
  | nil => exact (sl_ne l e).elim
  | cons h r => exact ⟨h, r, rfl⟩

theorem index_cons (b : UInt8) (l : List UInt8) : index (b :: l) [47] = if b = 47 then 0 else if index l [47] = -1 then -1 else index l [47] + 1 := by
  rw [index]
  by_cases h : b = 47
  · subst h; simp [List.isPrefixOf]
  · have h' : ¬ (47 : UInt8) = b := fun e => h e.symm
    have hp : ([47] : List UInt8).isPrefixOf (b :: l) = false := by simp [List.isPrefixOf, h']
    rw [hp]
    simp [h]

theorem sl_index : ∀ l : List UInt8, (index l [47] = -1 → sl l = [l]) ∧ (∀ i : Nat, index l [47] = i → sl l = l.take i :: sl (l.drop (i + 1)))
  | [] => ⟨fun _ => rfl, fun i h => by have : index [] [47] = -1 := rfl; omega⟩
  | b :: l => by
    obtain ⟨h1, h2⟩ := sl_index l
    rw [index_cons]
    by_cases hb : b = 47
    · subst hb
      rw [if_pos rfl]
      refine ⟨fun h => by omega, fun i h => ?_⟩
      obtain rfl : i = 0 := by omega
      rw [sl_hit]; rfl
    · rw [if_neg hb]
      by_cases hm : index l [47] = -1
      · rw [if_pos hm]
        refine ⟨fun _ => ?_, fun i h => by omega⟩
        exact sl_miss hb (h1 hm)
      · rw [if_neg hm]
        have hg := index_ge l [47]
        refine ⟨fun h => by omega, fun i h => ?_⟩
        obtain ⟨j, hj⟩ : ∃ j : Nat, index l [47] = j := ⟨(index l [47]).toNat, by omega⟩
        obtain rfl : i = j + 1 := by omega
        exact sl_miss hb (h2 j hj)

theorem splitK_sl : ∀ (k : Nat) (l : List UInt8), count l [47] = k → splitK [47] 0 k l = sl l
  | 0, l, h => by
    rcases (show index l [47] < 0 ∨ 0 ≤ index l [47] by omega) with hi | hi
    · rw [(sl_index l).1 (by have := index_ge l [47]; omega)]; rfl
    · obtain ⟨j, hj⟩ : ∃ j : Nat, index l [47] = j := ⟨(index l [47]).toNat, by omega⟩
      have := count_hit (by simp) hj
      omega
  | k + 1, l, h => by
    rcases (show index l [47] < 0 ∨ 0 ≤ index l [47] by omega) with hi | hi
    · have hm : index l [47] = -1 := by have := index_ge l [47]; omega
      rw [count_miss hm] at h; omega
    · obtain ⟨j, hj⟩ : ∃ j : Nat, index l [47] = j := ⟨(index l [47]).toNat, by omega⟩
      have hc := count_hit (by simp) hj
      have hne : ¬ (index l [47] == -1) = true := fun e => by have := beq_iff_eq.1 e; omega
      have et : (index l [47]).toNat = j := by omega
      unfold splitK
      rw [if_neg hne, et, (sl_index l).2 j hj]
      simp only [Nat.add_zero, List.length_singleton]
      rw [splitK_sl k _ (by simp at hc; omega)]

/-- The pieces of a text, as strings.Split gives them. -/
def piecesB (s : ByteArray) : List ByteArray := splitB ⟨#[47]⟩ 0 (countB s ⟨#[47]⟩) s
theorem pieces_sl (s : ByteArray) : (piecesB s).map (·.data.toList) = sl s.data.toList := by
  unfold piecesB
  rw [splitB_data]
  exact splitK_sl _ _ rfl
theorem pieces_len (s : ByteArray) : (piecesB s).length = countB s ⟨#[47]⟩ + 1 := splitB_all _ (by decide) 0 _ s rfl
theorem pieces_le (s : ByteArray) : (piecesB s).length ≤ s.size + 1 := by
  have := countB_le ⟨#[47]⟩ (by decide) s.size s (Nat.le_refl _)
  rw [pieces_len]; omega

/-- Cut and joined again, a text is as it was. -/
theorem join_sl (l : List UInt8) : join (sl l) [47] = l := by
  induction l with
  | nil => rfl
  | cons c t ih =>
    obtain ⟨h, r, e⟩ := sl_cases t
    rw [e] at ih
    by_cases hc : c = 47
    · subst hc
      rw [sl_hit, e, join_cons]
      rw [join_cons] at ih
      simp only [joinTail, List.map_cons, List.flatten_cons] at ih ⊢
      simp [← ih]
    · rw [sl_miss hc e, join_cons]
      rw [join_cons] at ih
      simp [← ih]
theorem sl_no47 : ∀ (l : List UInt8) (x : List UInt8), x ∈ sl l → (47 : UInt8) ∉ x
  | [], x, h => by simp [sl] at h; subst h; simp
  | c :: t, x, h => by
    obtain ⟨g, r, e⟩ := sl_cases t
    have ih := sl_no47 t
    rw [e] at ih
    by_cases hc : c = 47
    · subst hc
      rw [sl_hit, e] at h
      rcases List.mem_cons.1 h with rfl | h
      · simp
      · exact ih x h
    · rw [sl_miss hc e] at h
      rcases List.mem_cons.1 h with rfl | h
      · have := ih g (by simp)
        simp only [List.mem_cons, not_or]
        exact ⟨fun e => hc e.symm, this⟩
      · exact ih x (by simp [h])
/-- Pieces without slashes, joined and cut again. -/
theorem sl_append (x l : List UInt8) (hx : (47 : UInt8) ∉ x) : sl (x ++ 47 :: l) = x :: sl l := by
  induction x with
  | nil => exact sl_hit l
  | cons c t ih =>
    simp only [List.mem_cons, not_or] at hx
    exact sl_miss (fun e => hx.1 e.symm) (ih hx.2)
theorem sl_one (x : List UInt8) (hx : (47 : UInt8) ∉ x) : sl x = [x] := by
  induction x with
  | nil => rfl
  | cons c t ih =>
    simp only [List.mem_cons, not_or] at hx
    exact sl_miss (fun e => hx.1 e.symm) (ih hx.2)
theorem sl_join : ∀ (xs : List (List UInt8)), xs ≠ [] → (∀ x ∈ xs, (47 : UInt8) ∉ x) → sl (join xs [47]) = xs
  | [], h, _ => (h rfl).elim
  | [x], _, hx => by rw [join_one]; exact sl_one x (hx x (by simp))
  | x :: y :: r, _, hx => by
    have ih := sl_join (y :: r) (by simp) (fun z hz => hx z (by simp [hz]))
    have e : join (x :: y :: r) [47] = x ++ 47 :: join (y :: r) [47] := by
      rw [join_cons, join_cons]; simp [joinTail]
    rw [e, sl_append x _ (hx x (by simp)), ih]

/-- A part: neither empty nor a point. -/
def keepL (x : List UInt8) : Bool := !(x == [] || x == [46])
def keepB (x : ByteArray) : Bool := keepL x.data.toList
/-- The parts of a name. -/
def partsB (s : ByteArray) : List ByteArray := (piecesB s).filter keepB
def partsL (l : List UInt8) : List (List UInt8) := (sl l).filter keepL
theorem parts_list (s : ByteArray) : (partsB s).map (·.data.toList) = partsL s.data.toList := by
  unfold partsB partsL
  rw [← pieces_sl, List.filter_map]
  rfl
theorem parts_le (s : ByteArray) : (partsB s).length ≤ s.size + 1 := Nat.le_trans (List.length_filter_le _ _) (pieces_le s)
theorem join_len (xs : List (List UInt8)) (n : Nat) (h : ∀ x ∈ xs, x.length ≤ n) : (join xs [47]).length ≤ xs.length * (n + 1) := by
  match xs with
  | [] => simp [join_nil]
  | x :: r =>
    rw [join_cons]
    have ht : (joinTail [47] r).length ≤ r.length * (n + 1) := by
      have : ∀ r : List (List UInt8), (∀ x ∈ r, x.length ≤ n) → (joinTail [47] r).length ≤ r.length * (n + 1) := by
        intro r
        induction r with
        | nil => intro _; simp [joinTail]
        | cons y t ih =>
          intro hy
          have h1 := hy y (by simp)
          have h2 := ih (fun z hz => hy z (by simp [hz]))
          simp only [joinTail, List.map_cons, List.flatten_cons, List.length_append, List.length_cons, List.length_nil] at h2 ⊢
          rw [Nat.succ_mul]; omega
      exact this r (fun z hz => h z (by simp [hz]))
    have h1 := h x (by simp)
    simp only [List.length_append, List.length_cons]
    rw [Nat.succ_mul]; omega
theorem sl_piece_len : ∀ (l x : List UInt8), x ∈ sl l → x.length ≤ l.length
  | [], x, h => by simp [sl] at h; subst h; simp
  | c :: t, x, h => by
    obtain ⟨g, r, e⟩ := sl_cases t
    have ih := sl_piece_len t
    rw [e] at ih
    by_cases hc : c = 47
    · subst hc
      rw [sl_hit, e] at h
      rcases List.mem_cons.1 h with rfl | h
      · simp
      · have := ih x h; simp; omega
    · rw [sl_miss hc e] at h
      rcases List.mem_cons.1 h with rfl | h
      · have := ih g (by simp); simp; omega
      · have := ih x (by simp [h]); simp; omega
theorem piece_size {s x : ByteArray} (h : x ∈ piecesB s) : x.size ≤ s.size := by
  have : x.data.toList ∈ sl s.data.toList := by rw [← pieces_sl]; exact List.mem_map_of_mem h
  have := sl_piece_len _ _ this
  simpa using this
theorem part_size {s x : ByteArray} (h : x ∈ partsB s) : x.size ≤ s.size := piece_size (List.mem_filter.1 h).1
end Go.Proofs.YtnbcbipigiopbaaGreatDoor
/-
  The parts of a name: path.Parts and the reference's Parts.
-/
namespace Go.Proofs.YtnbcbipigiopbaaGreatDoor
open Go.RowKit Go.WideShapes Go.Sort

/-- What strings.Split reads: a number. -/
def HasMax (w : World) : Prop := ∃ m : Int, w.cell? ⟨1, 0, none⟩ = some (.int .i64 m)
theorem HasMax.ext {w w' : World} (h : HasMax w) (hE : Ext w w') : HasMax w' := h.imp fun _ hm => hE.cell hm
theorem HasMax.ofShaped {w : World} (h : w.ShapedOpen Tryz.prog) : HasMax w :=
  Go.Proofs.cell_of_shapedOpen_int (zero := #[.int .i64 0]) (t := 3) h (of_decide_eq_true (by kernel_rfl)) (by kernel_rfl) rfl (by kernel_rfl) (by kernel_rfl) Tryz.underlying3

theorem putRow_ext {α : Type} [Inhabited α] (enc : α → Value) {w W : World} (h : Ext w W) (q blk off : Nat) (hb : w.heap.size ≤ blk) (d : Array α) : Ext w (putRow enc (Sort.ahead W q) blk off d) := by
  refine Below.trans h ⟨rfl, rfl, rfl, by rw [size_putRow]; exact Nat.le_refl _, fun k hk => ?_⟩
  unfold putRow mapBlock
  simp only [Array.getElem?_modify]
  rw [if_neg (by omega)]
  rfl

/-- A list of texts comes back; nothing old has turned. -/
def GivesStrs (l : List ByteArray) (w : World) (e : Ending) (w' : World) : Prop := ∃ v, e = .returned v ∧ IsStrs w' v l ∧ Ext w w'

theorem infoStr : (Tryz.prog.info? 9).map (fun i => (i.zero, i.size, i.bytes)) = some (some (.string ByteArray.empty), 1, 16) := by kernel_rfl
theorem owns_lt {w : World} {base : Nat} {v : Value} {n : Nat} {xs : List Value} (h : w.ownsRow base 9 1 v n xs) {B : Nat} (hB : B ≤ base) : ∀ k, v.ownBlock = some k → B ≤ k := fun k hk => Nat.le_trans hB (World.ownsRow.lt h k hk).1

/-- The parts among the first pieces. -/
def keepT (l : List ByteArray) (k : Nat) : List ByteArray := (l.take k).filter keepB
theorem keepT_hit {l : List ByteArray} {k : Nat} (h : k < l.length) (hk : keepB l[k] = true) : keepT l (k + 1) = keepT l k ++ [l[k]] := by
  unfold keepT
  rw [List.take_succ_eq_append_getElem h, List.filter_append]
  simp [hk]
theorem keepT_miss {l : List ByteArray} {k : Nat} (h : k < l.length) (hk : keepB l[k] = false) : keepT l (k + 1) = keepT l k := by
  unfold keepT
  rw [List.take_succ_eq_append_getElem h, List.filter_append]
  simp [hk]
theorem keepT_len (l : List ByteArray) (k : Nat) : (keepT l k).length ≤ k := by
  unfold keepT
  exact Nat.le_trans (List.length_filter_le _ _) (List.length_take_le _ _)
theorem keepT_all (l : List ByteArray) : keepT l l.length = l.filter keepB := by unfold keepT; rw [List.take_length]

end Go.Proofs.YtnbcbipigiopbaaGreatDoor
/-
  Numbers by the base 256: both functions give the same.
-/
namespace Go.Proofs.YtnbcbipigiopbaaGreatDoor
open Go.RowKit Go.PlainAid

/-- The byte at a place from behind. -/
def byteAt (n : Int) (k : Nat) : Int := (n / 2 ^ min (8 * k) 64) % 256
theorem byteAt_lo (n : Int) (k : Nat) : 0 ≤ byteAt n k := by unfold byteAt; omega
theorem byteAt_hi (n : Int) (k : Nat) : byteAt n k < 256 := by unfold byteAt; omega
def byteU (n : Int) (k : Nat) : UInt8 := UInt8.ofNat (byteAt n k).toNat
theorem byteU_int (n : Int) (k : Nat) : ((byteU n k).toNat : Int) = byteAt n k := by
  have h1 := byteAt_lo n k
  have h2 := byteAt_hi n k
  unfold byteU
  rw [UInt8.toNat_ofNat']
  omega
def low (n : Int) : Nat → List UInt8
  | 0 => []
  | k + 1 => byteU n k :: low n k
theorem low_length (n : Int) : ∀ k, (low n k).length = k
  | 0 => rfl
  | k + 1 => by simp [low, low_length n k]

def u8v (b : UInt8) : Value := .int .u8 (b.toNat : Int)
/-- The buffer behind so many rounds. -/
def buf (W : Nat) (n : Int) (k : Nat) : Array Value := (List.replicate (W - k) (Value.int .u8 0) ++ (low n k).map u8v).toArray
theorem buf_size (W : Nat) (n : Int) (k : Nat) (h : k ≤ W) : (buf W n k).size = W := by simp [buf, low_length]; omega
theorem buf_set (W : Nat) (n : Int) (k : Nat) (h : k < W) : (buf W n k).setIfInBounds (W - 1 - k) (.int .u8 (byteAt n k)) = buf W n (k + 1) := by
  have e : W - k = (W - 1 - k) + 1 := by omega
  have e2 : W - (k + 1) = W - 1 - k := by omega
  unfold buf
  rw [e, e2, List.setIfInBounds_toArray, List.replicate_succ', List.append_assoc, List.set_append_right _ _ (by simp)]
  simp [low, u8v, byteU_int]

/-- The first byte. -/
def topU (n : Int) : UInt8 := if n < 0 then 255 else 128
def binV (n : Int) (W : Nat) : ByteArray := ⟨(topU n :: low n (W - 1)).toArray⟩

/-- Which error. -/
def binE (n W : Int) : Int := if W < 8 ∨ 20 < W then 1 else if W = 8 ∧ (n < -36028797018963968 ∨ 36028797018963967 < n) then 2 else 0
def binS (n W : Int) : ByteArray := if binE n W = 0 then binV n W.toNat else ⟨#[]⟩

theorem infoU8 : (Tryz.prog.info? 5).map (fun i => (i.zero, i.size, i.bytes)) = some (some (.int .u8 0), 1, 1) := by kernel_rfl

theorem buf_start (W : Nat) (n : Int) : madeCells #[Value.int .u8 0] W = buf W n 0 := by
  have e : buf W n 0 = Array.replicate W (Value.int .u8 0) := by simp [buf, low]
  rw [e]
  apply Array.ext
  · simp [size_madeCells]
  · intro i h1 h2
    simp [madeCells, Nat.mod_one]
theorem byteAt_small {n : Int} {k : Nat} (h : k ≤ 8) : byteAt n k = n / 2 ^ (8 * k) % 256 := by
  unfold byteAt
  rw [show min (8 * k) 64 = 8 * k by omega]
def sh64 (n : Int) : Int := n / 2 ^ 64
theorem byteAt_big {n : Int} {k : Nat} (h : 8 ≤ k) : byteAt n k = sh64 n % 256 := by
  unfold byteAt sh64
  rw [show min (8 * k) 64 = 64 by omega]
theorem shift_big {n : Int} {k : Nat} (h : 8 ≤ k) : Op.shift .shr .i64 n .i64 (8 * (k : Int)) = pure (.int .i64 (sh64 n)) := by
  have h0 : (0 : Int) ≤ 8 * (k : Int) := by omega
  rw [shift_shr_any .i64 .i64 n (8 * (k : Int)) h0]
  have : min (8 * (k : Int)).toNat IntKind.i64.bits = 64 := by simp [IntKind.bits]; omega
  rw [this]; rfl

theorem conv_cells (w : World) (C : Array Value) (l : List UInt8) (W : Nat) (hl : l.length = W) (hC : C = (l.map u8v).toArray) :
    (convert 98 9 (.slice (some ⟨w.heap.size, 0, none⟩) W W)).run Tryz.prog (w.alloc (.cells C 5)) = .ok (.string ⟨l.toArray⟩) (w.alloc (.cells C 5)) := by
  subst hl hC
  refine run_convert_bytes_back (P := Tryz.prog) (w.alloc (.cells _ 5)) 98 9 5 ⟨w.heap.size, 0, none⟩ l.length l Tryz.underlying98 Tryz.underlying5 Tryz.underlying9 ?_
  intro j hj
  have e : Addr.add ⟨w.heap.size, 0, none⟩ j = ⟨w.heap.size, j, none⟩ := by
    simp only [Addr.add]
    split <;> simp_all
  rw [e]
  refine (World.cell?_alloc_mark w (l.map u8v).toArray 5 (0, 0) j).trans ?_
  simp [u8v, hj]
theorem buf_end (W : Nat) (n : Int) (hW : 0 < W) (b : UInt8) : (buf W n (W - 1)).setIfInBounds 0 (u8v b) = ((b :: low n (W - 1)).map u8v).toArray := by
  unfold buf
  rw [show W - (W - 1) = 1 by omega]
  simp

set_option maxRecDepth 100000 in
theorem binary_good (n : Int) (W : Nat) (w : World) (h1 : 8 ≤ W) (h2 : W ≤ 20) (hr : W = 8 → -36028797018963968 ≤ n ∧ n ≤ 36028797018963967) : Calls Tryz.prog 148 #[.int .i64 n, .int .i64 (W : Int)] w fun e w' => e = .returned (.tuple #[.string (binV n W), .nilIface]) ∧ Ext w w' := by
  have g1 : (8 : Int) ≤ (W : Int) := by omega
  have g2 : (W : Int) ≤ 20 := by omega
  have hmk := run_make_row' (P := Tryz.prog) 98 5 (.int .u8 0) 1 Tryz.underlying98 infoU8 rfl .i64 .i64 W (by omega) (by omega)
  have hsz : 0 < W := by omega
  rw [buf_start W n] at hmk
  rcases (show ((W : Int) == 8) = false ∨ (((W : Int) == 8) = true ∧ -36028797018963968 ≤ n ∧ n ≤ 36028797018963967) by
      by_cases e : W = 8
      · right; exact ⟨by simp; omega, hr e⟩
      · left; simp; omega) with h8 | ⟨h8, h9, h10⟩
  all_goals
    clear hr
    go_enter Tryz.func148, Tryz.ntmps148
    go_wp2_with fail
    go_loopw [30] (fun i w' => ∃ k : Nat, k < W ∧ i = .int .i64 (k : Int) ∧ w' = w.alloc (.cells (buf W n k) 5)) (fun i _ => (W - intOf i).toNat)
    case atStart => exact ⟨0, hsz, rfl, rfl⟩
    case round =>
      obtain ⟨k, hk, rfl, rfl⟩ := hrel
      have hbs := buf_size W n k (by omega)
      by_cases hlt : (k : Int) < (W : Int) - 1
      · have i0 : 0 ≤ (W : Int) - 1 - (k : Int) := by omega
        have i1 : (W : Int) - 1 - (k : Int) < (W : Int) := by omega
        have it : ((W : Int) - 1 - (k : Int)).toNat = W - 1 - k := by omega
        have hin : W - 1 - k < W := by omega
        have hst := buf_set W n k hk
        by_cases h88 : k < 8
        · have h8k : 8 * (k : Int) ≤ 64 := by omega
          have hby : Hid (byteAt n k = n / 2 ^ (8 * k) % 256) := Lib.hid (byteAt_small (by omega))
          have Hst := Lib.hid hst
          clear hst
          go_wp2_with fail
          go_roundw
          case rel => exact ⟨k + 1, by omega, by go_num, by rw [← Hst.out, hby.out]⟩
          case measure => simp [intOf]; omega
        · have h8' : W ≠ 8 := by omega
          first
            | (exfalso; simp at h8; omega)
            | (
              have hshf := shift_big (n := n) (k := k) (by omega)
              have hby : Hid (byteAt n k = sh64 n % 256) := Lib.hid (byteAt_big (by omega))
              have Hst := Lib.hid hst
              clear hst
              go_wp2_with fail
              go_roundw
              case rel => exact ⟨k + 1, by omega, by go_num, by rw [← Hst.out, hby.out]⟩
              case measure => simp [intOf]; omega)
      · have hk1 : k = W - 1 := by omega
        have hend := buf_end W n hsz
        rw [← hk1] at hend
        by_cases hn : n < 0
        · have hv : binV n W = ⟨(255 :: low n k).toArray⟩ := by unfold binV topU; rw [if_pos hn, hk1]
          have hc2 := conv_cells w _ (255 :: low n k) W (by rw [List.length_cons, low_length]; omega) (hend 255)
          rw [← hv, show u8v 255 = Value.int .u8 255 from rfl] at hc2
          have hc3 : ((buf W n k).setIfInBounds 0 (.int .u8 128)).setIfInBounds 0 (.int .u8 255) = (buf W n k).setIfInBounds 0 (.int .u8 255) := by simp
          have hc1 := hc2
          rw [← hc3] at hc1
          clear hend hk1 hc3 hv
          go_wp2_with fail
          go_ret2
          exact ⟨rfl, (by show Below _ _ _; repeat' (first | (with_reducible exact Below.refl _ _) | (with_reducible assumption) | (with_reducible refine belowDrewN ?_ _) | (with_reducible refine Below.alloc ?_ ?_ _) | (with_reducible refine Below.drew ?_) | (with_reducible refine Below.setCell ?_ ?_ _) | go_size))⟩
        · have hv : binV n W = ⟨(128 :: low n k).toArray⟩ := by unfold binV topU; rw [if_neg hn, hk1]
          have hc2 := conv_cells w _ (128 :: low n k) W (by rw [List.length_cons, low_length]; omega) (hend 128)
          rw [← hv, show u8v 128 = Value.int .u8 128 from rfl] at hc2
          clear hend hk1 hv
          go_wp2_with fail
          go_ret2
          exact ⟨rfl, (by show Below _ _ _; repeat' (first | (with_reducible exact Below.refl _ _) | (with_reducible assumption) | (with_reducible refine belowDrewN ?_ _) | (with_reducible refine Below.alloc ?_ ?_ _) | (with_reducible refine Below.drew ?_) | (with_reducible refine Below.setCell ?_ ?_ _) | go_size))⟩
end Go.Proofs.YtnbcbipigiopbaaGreatDoor
/-
  The reference's Binary.
-/
namespace Go.Proofs.YtnbcbipigiopbaaGreatDoor
open Go.RowKit Go.PlainAid

theorem one_yes (w : World) : Calls Tryz.prog 72 #[.bool true] w fun e w' => e = .returned (.int .i64 1) ∧ w' = w := by
  go_enter Tryz.func72, Tryz.ntmps72
  go_wp2_with fail
  go_ret
  exact ⟨rfl, rfl⟩
theorem one_no (w : World) : Calls Tryz.prog 72 #[.bool false] w fun e w' => e = .returned (.int .i64 0) ∧ w' = w := by
  go_enter Tryz.func72, Tryz.ntmps72
  go_wp2_with fail
  go_ret
  exact ⟨rfl, rfl⟩
theorem char_any (v : Int) (h0 : 0 ≤ v) (h1 : v < 256) (w : World) : Calls Tryz.prog 79 #[.int .i64 v] w fun e w' => e = .returned (.string ⟨#[UInt8.ofNat v.toNat]⟩) ∧ Ext w w' := by
  have hv : (((UInt8.ofNat v.toNat).toNat : Nat) : Int) = v := by rw [UInt8.toNat_ofNat']; omega
  have hc := run_convert_bytes_back (P := Tryz.prog) (w.alloc (.cells #[.int .u8 v] 5)) 98 9 5 ⟨w.heap.size, 0, none⟩ 1 [UInt8.ofNat v.toNat] Tryz.underlying98 Tryz.underlying5 Tryz.underlying9 (by
    intro j hj
    obtain rfl : j = 0 := by simp at hj; omega
    have e : Addr.add ⟨w.heap.size, 0, none⟩ 0 = ⟨w.heap.size, 0, none⟩ := by simp [Addr.add]
    rw [e]
    refine (World.cell?_alloc_mark w #[.int .u8 v] 5 (0, 0) 0).trans ?_
    exact congrArg (fun x => some (Value.int .u8 x)) hv.symm)
  simp only [List.length_singleton] at hc
  have hw : v % 256 = v := by omega
  clear hv
  go_enter Tryz.func79, Tryz.ntmps79
  go_wp2_with fail
  go_ret
  exact ⟨rfl, (by show Below _ _ _; repeat' (first | (with_reducible exact Below.refl _ _) | (with_reducible assumption) | (with_reducible refine belowDrewN ?_ _) | (with_reducible refine Below.alloc ?_ ?_ _) | (with_reducible refine Below.drew ?_) | (with_reducible refine Below.setCell ?_ ?_ _) | go_size))⟩

def uK (n : Int) : Nat → Int
  | 0 => n % 18446744073709551616
  | k + 1 => uK n k / 256
theorem uK_lo (n : Int) : ∀ k, 0 ≤ uK n k
  | 0 => by simp only [uK]; omega
  | k + 1 => by have := uK_lo n k; simp only [uK]; omega
theorem uK_hi (n : Int) : ∀ k, uK n k < 18446744073709551616
  | 0 => by simp only [uK]; omega
  | k + 1 => by have := uK_lo n k; have := uK_hi n k; simp only [uK]; omega
theorem uK_byte (n : Int) (k : Nat) (h : k < 8) : uK n k % 256 = byteAt n k := by
  unfold byteAt
  rcases (show k = 0 ∨ k = 1 ∨ k = 2 ∨ k = 3 ∨ k = 4 ∨ k = 5 ∨ k = 6 ∨ k = 7 by omega) with rfl | rfl | rfl | rfl | rfl | rfl | rfl | rfl
  · rw [show (2 : Int) ^ min (8 * 0) 64 = 1 by decide]; simp only [uK]; omega
  · rw [show (2 : Int) ^ min (8 * 1) 64 = 256 by decide]; simp only [uK]; omega
  · rw [show (2 : Int) ^ min (8 * 2) 64 = 65536 by decide]; simp only [uK]; omega
  · rw [show (2 : Int) ^ min (8 * 3) 64 = 16777216 by decide]; simp only [uK]; omega
  · rw [show (2 : Int) ^ min (8 * 4) 64 = 4294967296 by decide]; simp only [uK]; omega
  · rw [show (2 : Int) ^ min (8 * 5) 64 = 1099511627776 by decide]; simp only [uK]; omega
  · rw [show (2 : Int) ^ min (8 * 6) 64 = 281474976710656 by decide]; simp only [uK]; omega
  · rw [show (2 : Int) ^ min (8 * 7) 64 = 72057594037927936 by decide]; simp only [uK]; omega
theorem byteAt_neg {n : Int} {k : Nat} (h : 8 ≤ k) (h1 : n < 0) (h2 : -9223372036854775808 ≤ n) : byteAt n k = 255 := by
  rw [byteAt_big h]; unfold sh64
  rw [show (2 : Int) ^ 64 = 18446744073709551616 by decide]; omega
theorem byteAt_pos {n : Int} {k : Nat} (h : 8 ≤ k) (h1 : 0 ≤ n) (h2 : n ≤ 9223372036854775807) : byteAt n k = 0 := by
  rw [byteAt_big h]; unfold sh64
  rw [show (2 : Int) ^ 64 = 18446744073709551616 by decide]; omega

theorem p55 (w : World) : Calls Tryz.prog 128 #[.int .i64 2, .int .i64 55] w fun e w' => e = .returned (.int .i64 36028797018963968) ∧ w' = w := by
  have := power_same 2 55 (by omega) (by omega) (by decide) w
  rw [show ((pw 2 55 : Nat) : Int) = 36028797018963968 by decide] at this
  exact this
theorem str_cons (b : UInt8) (l : List UInt8) : (⟨#[b]⟩ : ByteArray) ++ ⟨l.toArray⟩ = ⟨(b :: l).toArray⟩ := by
  apply ByteArray.ext
  simp

set_option maxRecDepth 100000 in
theorem refBinary_good (n : Int) (W : Nat) (w : World) (h1 : 8 ≤ W) (h2 : W ≤ 20) (hr : W = 8 → -36028797018963968 ≤ n ∧ n ≤ 36028797018963967) (hn1 : -9223372036854775808 ≤ n) (hn2 : n ≤ 9223372036854775807) :
    Calls Tryz.prog 141 #[.int .i64 n, .int .i64 (W : Int)] w fun e w' => e = .returned (.tuple #[.string (binV n W), .int .i64 0]) ∧ Ext w w' := by
  have g1 : (8 : Int) ≤ (W : Int) := by omega
  have g2 : (W : Int) ≤ 20 := by omega
  have hsz : 0 < W := by omega
  have hu : IntKind.u64.wrap n = uK n 0 := by rw [IntKind.wrap_u64]; rfl
  rcases (show ((W : Int) == 8) = false ∨ (((W : Int) == 8) = true ∧ -36028797018963968 ≤ n ∧ n ≤ 36028797018963967) by
      by_cases e : W = 8
      · right; exact ⟨by simp; omega, by have := hr e; omega⟩
      · left; simp; omega) with h8 | ⟨h8, h9, h10⟩
  all_goals
    clear hr
    go_enter Tryz.func141, Tryz.ntmps141
    go_wp2_with (first | ((with_reducible refine (within_yes' g1 g2 _).mono ?_); rintro e w' ⟨rfl, hw⟩; subst w') | ((with_reducible refine (p55 _).mono ?_); rintro e w' ⟨rfl, hw⟩; subst w') | ((with_reducible refine (within_yes' h9 h10 _).mono ?_); rintro e w' ⟨rfl, hw⟩; subst w'))
    go_loopw [6, 7, 8] (fun u st i w' => ∃ k : Nat, k < W ∧ u = .int .u64 (uK n k) ∧ st = .string ⟨(low n k).toArray⟩ ∧ i = .int .i64 ((k : Int) + 1) ∧ Ext w w') (fun _ _ i _ => (W + 1 - intOf i).toNat)
    case atStart => exact ⟨0, hsz, rfl, rfl, rfl, Ext.refl _⟩
    case round =>
      obtain ⟨k, hk, rfl, rfl, rfl, hx⟩ := hrel
      have l1 := uK_lo n k
      have l2 := uK_hi n k
      have b1 := byteAt_lo n k
      have b2 := byteAt_hi n k
      by_cases hlt : (k : Int) + 1 < (W : Int)
      · have hu1 : uK n k / 256 = uK n (k + 1) := rfl
        have hsl : (⟨(low n k).toArray⟩ : ByteArray).size = k := by show (low n k).toArray.size = k; simp [low_length]
        by_cases h88 : k < 8
        · have hub := uK_byte n k h88
          have hmod : byteAt n k % 256 = byteAt n k := by omega
          have hi8 : (k : Int) + 1 ≤ 8 := by omega
          go_wp2_with ((refine (char_any _ b1 b2 _).mono ?_); rintro e w1 ⟨rfl, hx1⟩)
          go_roundw
          case rel => exact ⟨k + 1, by omega, rfl, congrArg Value.string (str_cons _ _), by go_num, hx.trans hx1⟩
          case measure => simp [intOf]; omega
        · have hi8 : 8 < (k : Int) + 1 := by omega
          by_cases hn : n < 0
          · have hby : Hid (byteU n k = 255) := Lib.hid (by unfold byteU; rw [byteAt_neg (by omega) hn hn1]; rfl)
            have c1 := char_any 255 (by omega) (by omega)
            go_wp2_with (first | ((with_reducible refine (one_yes _).mono ?_); rintro e w' ⟨rfl, hw⟩; subst w') | ((with_reducible refine (c1 _).mono ?_); rintro e w1 ⟨rfl, hx1⟩))
            go_roundw
            case rel => exact ⟨k + 1, by omega, rfl, congrArg Value.string (by rw [← hby.out]; exact str_cons _ _), by go_num, hx.trans hx1⟩
            case measure => simp [intOf]; omega
          · have hby : Hid (byteU n k = 0) := Lib.hid (by unfold byteU; rw [byteAt_pos (by omega) (by omega) hn2]; rfl)
            have c1 := char_any 0 (by omega) (by omega)
            go_wp2_with (first | ((with_reducible refine (one_no _).mono ?_); rintro e w' ⟨rfl, hw⟩; subst w') | ((with_reducible refine (c1 _).mono ?_); rintro e w1 ⟨rfl, hx1⟩))
            go_roundw
            case rel => exact ⟨k + 1, by omega, rfl, congrArg Value.string (by rw [← hby.out]; exact str_cons _ _), by go_num, hx.trans hx1⟩
            case measure => simp [intOf]; omega
      · have hk1 : Hid (k = W - 1) := Lib.hid (by omega)
        have hsl : (⟨(low n k).toArray⟩ : ByteArray).size = k := by show (low n k).toArray.size = k; simp [low_length]
        by_cases hn : n < 0
        · have hv : Hid ((⟨#[UInt8.ofNat (255 : Int).toNat]⟩ : ByteArray) ++ ⟨(low n k).toArray⟩ = binV n W) := Lib.hid (by rw [str_cons]; unfold binV topU; rw [if_pos hn, hk1.out]; rfl)
          have c1 := char_any 255 (by omega) (by omega)
          go_wp2_with (first | ((with_reducible refine (one_yes _).mono ?_); rintro e w' ⟨rfl, hw⟩; subst w') | ((with_reducible refine (c1 _).mono ?_); rintro e w1 ⟨rfl, hx1⟩))
          go_ret2
          exact ⟨ret_val (by rw [← hv.out]; rfl), hx.trans hx1⟩
        · have hv : Hid ((⟨#[UInt8.ofNat (128 : Int).toNat]⟩ : ByteArray) ++ ⟨(low n k).toArray⟩ = binV n W) := Lib.hid (by rw [str_cons]; unfold binV topU; rw [if_neg hn, hk1.out]; rfl)
          have c1 := char_any 128 (by omega) (by omega)
          go_wp2_with (first | ((with_reducible refine (one_no _).mono ?_); rintro e w' ⟨rfl, hw⟩; subst w') | ((with_reducible refine (c1 _).mono ?_); rintro e w1 ⟨rfl, hx1⟩))
          go_ret2
          exact ⟨ret_val (by rw [← hv.out]; rfl), hx.trans hx1⟩

set_option maxRecDepth 100000 in
theorem refBinary_arg (n W : Int) (w : World) (h : W < 8 ∨ 20 < W) :
    Calls Tryz.prog 141 #[.int .i64 n, .int .i64 W] w fun e w' => e = .returned (.tuple #[.string ⟨#[]⟩, .int .i64 1]) ∧ Ext w w' := by
  have c1 := within_no' (n := W) (low := 8) (high := 20) h
  clear h
  go_enter Tryz.func141, Tryz.ntmps141
  go_wp2_with ((refine (c1 _).mono ?_); rintro e w' ⟨rfl, hw⟩; subst w')
  go_ret2
  exact ⟨rfl, (by show Below _ _ _; repeat' (first | (with_reducible exact Below.refl _ _) | (with_reducible assumption) | (with_reducible refine belowDrewN ?_ _) | (with_reducible refine Below.alloc ?_ ?_ _) | (with_reducible refine Below.drew ?_) | (with_reducible refine Below.setCell ?_ ?_ _) | go_size))⟩
set_option maxRecDepth 100000 in
theorem refBinary_range (n : Int) (w : World) (h : n < -36028797018963968 ∨ 36028797018963967 < n) :
    Calls Tryz.prog 141 #[.int .i64 n, .int .i64 8] w fun e w' => e = .returned (.tuple #[.string ⟨#[]⟩, .int .i64 2]) ∧ Ext w w' := by
  have c1 := within_yes' (n := 8) (low := 8) (high := 20) (by omega) (by omega)
  have c2 := within_no' h
  clear h
  go_enter Tryz.func141, Tryz.ntmps141
  go_wp2_with (first | ((with_reducible refine (c1 _).mono ?_); rintro e w' ⟨rfl, hw⟩; subst w') | ((with_reducible refine (p55 _).mono ?_); rintro e w' ⟨rfl, hw⟩; subst w') | ((with_reducible refine (c2 _).mono ?_); rintro e w' ⟨rfl, hw⟩; subst w'))
  go_ret2
  exact ⟨rfl, (by show Below _ _ _; repeat' (first | (with_reducible exact Below.refl _ _) | (with_reducible assumption) | (with_reducible refine belowDrewN ?_ _) | (with_reducible refine Below.alloc ?_ ?_ _) | (with_reducible refine Below.drew ?_) | (with_reducible refine Below.setCell ?_ ?_ _) | go_size))⟩
set_option maxRecDepth 100000 in
theorem binary_arg (n W : Int) (w : World) (h : W < 8 ∨ 20 < W) :
    Calls Tryz.prog 148 #[.int .i64 n, .int .i64 W] w fun e w' => e = .returned (.tuple #[.string ⟨#[]⟩, .iface 33 (.int .i64 1)]) ∧ Ext w w' := by
  rcases (show W < 8 ∨ (8 ≤ W ∧ 20 < W) by omega) with h1 | ⟨h1, h2⟩ <;> clear h
  all_goals
    go_enter Tryz.func148, Tryz.ntmps148
    go_wp2_with fail
    go_ret2
    exact ⟨rfl, (by show Below _ _ _; repeat' (first | (with_reducible exact Below.refl _ _) | (with_reducible assumption) | (with_reducible refine belowDrewN ?_ _) | (with_reducible refine Below.alloc ?_ ?_ _) | (with_reducible refine Below.drew ?_) | (with_reducible refine Below.setCell ?_ ?_ _) | go_size))⟩
set_option maxRecDepth 100000 in
theorem binary_range (n : Int) (w : World) (h : n < -36028797018963968 ∨ 36028797018963967 < n) :
    Calls Tryz.prog 148 #[.int .i64 n, .int .i64 8] w fun e w' => e = .returned (.tuple #[.string ⟨#[]⟩, .iface 33 (.int .i64 2)]) ∧ Ext w w' := by
  rcases (show n < -36028797018963968 ∨ (-36028797018963968 ≤ n ∧ 36028797018963967 < n) by omega) with h1 | ⟨h1, h2⟩ <;> clear h
  all_goals
    go_enter Tryz.func148, Tryz.ntmps148
    go_wp2_with fail
    all_goals go_ret2
    all_goals exact ⟨rfl, (by show Below _ _ _; repeat' (first | (with_reducible exact Below.refl _ _) | (with_reducible assumption) | (with_reducible refine belowDrewN ?_ _) | (with_reducible refine Below.alloc ?_ ?_ _) | (with_reducible refine Below.drew ?_) | (with_reducible refine Below.setCell ?_ ?_ _) | go_size))⟩

/-- The three ways in one word. -/
theorem binary_ways (n W : Int) (hn1 : -9223372036854775808 ≤ n) (hn2 : n ≤ 9223372036854775807) : ∃ (s : ByteArray) (k : Int), s.size ≤ 100 ∧
    (∀ w, Calls Tryz.prog 148 #[.int .i64 n, .int .i64 W] w fun e w' => e = .returned (.tuple #[.string s, errOf k]) ∧ Ext w w') ∧
    (∀ w, Calls Tryz.prog 141 #[.int .i64 n, .int .i64 W] w fun e w' => e = .returned (.tuple #[.string s, .int .i64 k]) ∧ Ext w w') := by
  by_cases h : W < 8 ∨ 20 < W
  · exact ⟨⟨#[]⟩, 1, by decide, fun w => binary_arg n W w h, fun w => refBinary_arg n W w h⟩
  · by_cases h8 : W = 8 ∧ (n < -36028797018963968 ∨ 36028797018963967 < n)
    · obtain ⟨rfl, h8⟩ := h8
      exact ⟨⟨#[]⟩, 2, by decide, fun w => binary_range n w h8, fun w => refBinary_range n w h8⟩
    · obtain ⟨W, rfl⟩ := Int.eq_ofNat_of_zero_le (show 0 ≤ W by omega)
      refine ⟨binV n W, 0, ?_, fun w => binary_good n W w (by omega) (by omega) (by omega), fun w => refBinary_good n W w (by omega) (by omega) (by omega) hn1 hn2⟩
      show (topU n :: low n (W - 1)).toArray.size ≤ 100
      simp [low_length]; omega
end Go.Proofs.YtnbcbipigiopbaaGreatDoor
/-
  Contracts of number.Most and of the reference's Most.
-/
namespace Go.Proofs.YtnbcbipigiopbaaGreatDoor
open Go.RowKit

/-- The greatest octal number of a field. -/
def mostI (n : Int) : Int := if 2 ≤ n ∧ n ≤ 20 then (pw 8 (n - 1).toNat : Int) - 1 else 0

theorem pw8_bound {k : Nat} (h : k ≤ 19) : pw 8 k ≤ 144115188075855872 := Nat.le_trans (pw_mono (by decide) h) (by decide)
theorem pw8_pos (k : Nat) : 1 ≤ pw 8 k := Nat.pow_pos (by decide)

theorem refMost_any (n : Int) (w : World) : Calls Tryz.prog 80 #[.int .i64 n] w fun e w' => e = .returned (.int .i64 (mostI n)) ∧ Ext w w' := by
  by_cases h : 2 ≤ n ∧ n ≤ 20
  · obtain ⟨h1, h2⟩ := h
    have b1 := pw8_bound (k := (n - 1).toNat) (by omega)
    have b2 := pw8_pos (n - 1).toNat
    have er : Hid (mostI n = (pw 8 (n - 1).toNat : Int) - 1) := Lib.hid (by unfold mostI; rw [if_pos ⟨h1, h2⟩])
    go_enter Tryz.func80, Tryz.ntmps80
    go_wp2_with fail
    refine (within_yes h1 h2 _).mono ?_; rintro e w1 ⟨rfl, hx1⟩
    go_wp2_with fail
    refine (power_int (by omega) (by omega) (by omega) (Nat.le_trans b1 (by decide)) _).mono ?_; rintro e w2 ⟨rfl, hx2⟩
    go_wp2_with fail
    go_ret
    exact ⟨ret_int (by rw [er.out]; simp only [show (n - 1).toNat = n.toNat - 1 from by omega] at *; exact IntWalk.wrap64_in _ (by omega)), hx1.trans hx2⟩
  · have er : Hid (mostI n = 0) := Lib.hid (by unfold mostI; rw [if_neg h])
    go_enter Tryz.func80, Tryz.ntmps80
    go_wp2_with fail
    refine (within_no (by omega) _).mono ?_; rintro e w1 ⟨rfl, hx1⟩
    go_wp2_with fail
    go_ret
    exact ⟨ret_int (by rw [er.out]), hx1⟩

theorem most_any (n : Int) (w : World) : Calls Tryz.prog 96 #[.int .i64 n] w fun e w' => e = .returned (.int .i64 (mostI n)) ∧ Ext w w' := by
  by_cases h : 2 ≤ n ∧ n ≤ 20
  · obtain ⟨m, rfl⟩ : ∃ m : Nat, n = (m : Int) + 1 := ⟨(n - 1).toNat, by omega⟩
    obtain ⟨h1, h2⟩ := h
    have er : Hid (mostI ((m : Int) + 1) = (pw 8 m : Int) - 1) := Lib.hid (by unfold mostI; rw [if_pos ⟨h1, h2⟩]; simp)
    have h3 : decide ((m : Int) + 1 < 2) = false := by simpa using h1
    have h4 : decide (20 < (m : Int) + 1) = false := by simpa using h2
    have h5 : m ≤ 19 := by omega
    clear h1 h2
    go_enter Tryz.func96, Tryz.ntmps96
    go_wp2_with fail
    go_loop [3, 12] (fun out i => ∃ k : Nat, k ≤ m ∧ i = .int .i64 (k : Int) ∧ out = .int .i64 (pw 8 k : Int)) (fun _ i => m - (intOf i).toNat)
    case atStart => exact ⟨0, by omega, rfl, rfl⟩
    case round =>
      obtain ⟨k, hk, rfl, rfl⟩ := hrel
      have b1 := pw8_bound (k := k) (by omega)
      have b2 := pw8_pos k
      by_cases hlt : k < m
      · have hm : Hid ((pw 8 k : Int) * 8 = (pw 8 (k + 1) : Int)) := Lib.hid (pw_succ 8 k).symm
        go_wp2_with fail
        go_round
        case rel => exact ⟨k + 1, by omega, by go_num, by rw [← hm.out]⟩
        case measure => simp [intOf]; omega
      · obtain rfl : k = m := by omega
        go_wp2_with fail
        go_ret
        exact ⟨ret_int (by rw [er.out]), (by show Below _ _ _; repeat' (first | (with_reducible exact Below.refl _ _) | (with_reducible assumption) | (with_reducible refine belowDrewN ?_ _) | (with_reducible refine Below.alloc ?_ ?_ _) | (with_reducible refine Below.drew ?_) | (with_reducible refine Below.setCell ?_ ?_ _) | go_size))⟩
  · have er : Hid (mostI n = 0) := Lib.hid (by unfold mostI; rw [if_neg h])
    rcases (show (decide (n < 2) = true) ∨ (decide (n < 2) = false ∧ decide (20 < n) = true) from by simp; omega) with h3 | ⟨h3, h4⟩
    all_goals
      go_enter Tryz.func96, Tryz.ntmps96
      go_wp2_with fail
      go_ret
      exact ⟨ret_int (by rw [er.out]), (by show Below _ _ _; repeat' (first | (with_reducible exact Below.refl _ _) | (with_reducible assumption) | (with_reducible refine belowDrewN ?_ _) | (with_reducible refine Below.alloc ?_ ?_ _) | (with_reducible refine Below.drew ?_) | (with_reducible refine Below.setCell ?_ ?_ _) | go_size))⟩
end Go.Proofs.YtnbcbipigiopbaaGreatDoor
/-
  Octal digits, in plain words. No program, no conditions.
-/
namespace Go.Proofs.YtnbcbipigiopbaaGreatDoor
open Go.RowKit Go.PlainAid

/-- n without its last k octal digits. -/
def o8 (n : Int) : Nat → Int
  | 0 => n
  | k + 1 => o8 n k / 8
theorem o8_lo {n : Int} (h : 0 ≤ n) : ∀ k, 0 ≤ o8 n k
  | 0 => h
  | k + 1 => by have := o8_lo h k; simp only [o8]; omega
theorem o8_hi {n : Int} (h : 0 ≤ n) : ∀ k, o8 n k ≤ n
  | 0 => Int.le_refl _
  | k + 1 => by have := o8_lo h k; have := o8_hi h k; simp only [o8]; omega
/-- The digit at a place from behind. -/
def dg (n : Int) (k : Nat) : UInt8 := UInt8.ofNat (48 + o8 n k % 8).toNat
theorem dg_int (n : Int) (k : Nat) : ((dg n k).toNat : Int) = 48 + o8 n k % 8 := by
  unfold dg
  rw [UInt8.toNat_ofNat']
  omega
def oct (n : Int) : Nat → List UInt8
  | 0 => []
  | k + 1 => dg n k :: oct n k
theorem oct_length (n : Int) : ∀ k, (oct n k).length = k
  | 0 => rfl
  | k + 1 => by simp [oct, oct_length n k]
theorem o8_zero {n : Int} {j : Nat} (h : o8 n j = 0) : ∀ i, o8 n (j + i) = 0
  | 0 => h
  | i + 1 => by
    have := o8_zero h i
    show o8 n (j + i) / 8 = 0
    rw [this]; rfl
/-- Behind the last digit that counts stand zeros. -/
theorem oct_pad {n : Int} {j : Nat} (h : o8 n j = 0) : ∀ i, oct n (j + i) = List.replicate i 48 ++ oct n j
  | 0 => by simp
  | i + 1 => by
    have e : oct n (j + (i + 1)) = dg n (j + i) :: oct n (j + i) := rfl
    have hd : dg n (j + i) = 48 := by unfold dg; rw [o8_zero h i]; rfl
    rw [e, hd, oct_pad h i, List.replicate_succ]
    rfl
/-- How many digits a number has is told by the powers of 8. -/
theorem o8_pow (n : Int) (h : 0 ≤ n) : ∀ k : Nat, (o8 n k = 0 ↔ n < ((8 ^ k : Nat) : Int))
  | 0 => by simp only [o8, Nat.pow_zero]; omega
  | k + 1 => by
    have e : ∀ k : Nat, o8 n k = n / ((8 ^ k : Nat) : Int) := by
      intro k
      induction k with
      | zero => simp [o8]
      | succ k ih =>
        simp only [o8]
        rw [ih, Int.ediv_ediv_of_nonneg (Int.natCast_nonneg _), Nat.pow_succ, Int.natCast_mul]
        rfl
    rw [e (k + 1)]
    have hp : 0 < ((8 ^ (k + 1) : Nat) : Int) := Int.natCast_pos.2 (Nat.pow_pos (by decide))
    constructor
    · intro h0
      have := Int.lt_mul_ediv_self_add (x := n) hp
      rw [h0] at this
      simpa using this
    · intro h1
      exact Int.ediv_eq_zero_of_lt h h1
end Go.Proofs.YtnbcbipigiopbaaGreatDoor
/-
  number.Octal: a number as octal digits and a byte 0.
-/
namespace Go.Proofs.YtnbcbipigiopbaaGreatDoor
open Go.RowKit Go.PlainAid

/-- Which error, and the text. -/
def octE (n W : Int) : Int := if W < 2 ∨ 20 < W then 1 else if n < 0 ∨ mostI W < n then 2 else 0
def octV (n : Int) (W : Nat) : ByteArray := ⟨(oct n (W - 1) ++ [0]).toArray⟩
def octS (n W : Int) : ByteArray := if octE n W = 0 then octV n W.toNat else ⟨#[]⟩

/-- The buffer behind so many rounds. -/
def obuf (W : Nat) (n : Int) (k : Nat) : Array Value := (List.replicate (W - 1 - k) (Value.int .u8 0) ++ ((oct n k).map u8v ++ [Value.int .u8 0])).toArray
theorem obuf_size (W : Nat) (n : Int) (k : Nat) (h : k + 1 ≤ W) : (obuf W n k).size = W := by simp [obuf, oct_length]; omega
theorem obuf_set (W : Nat) (n : Int) (k : Nat) (h : k + 2 ≤ W) : (obuf W n k).setIfInBounds (W - 2 - k) (.int .u8 (48 + o8 n k % 8)) = obuf W n (k + 1) := by
  have e : W - 1 - k = (W - 2 - k) + 1 := by omega
  have e2 : W - 1 - (k + 1) = W - 2 - k := by omega
  unfold obuf
  rw [e, e2, List.setIfInBounds_toArray, List.replicate_succ', List.append_assoc, List.set_append_right _ _ (by simp)]
  simp [oct, u8v, dg_int]
theorem obuf_start (W : Nat) (n : Int) (h : 1 ≤ W) : madeCells #[Value.int .u8 0] W = obuf W n 0 := by
  have e : obuf W n 0 = Array.replicate W (Value.int .u8 0) := by
    obtain ⟨m, rfl⟩ : ∃ m, W = m + 1 := ⟨W - 1, by omega⟩
    have : obuf (m + 1) n 0 = (List.replicate m (Value.int .u8 0) ++ [Value.int .u8 0]).toArray := by simp [obuf, oct]
    rw [this, ← List.replicate_succ']
    simp
  rw [e]
  apply Array.ext
  · simp [size_madeCells]
  · intro i h1 h2
    simp [madeCells, Nat.mod_one]
theorem obuf_end (W : Nat) (n : Int) (k : Nat) (h : W = k + 1) : obuf W n k = ((oct n k ++ [0]).map u8v).toArray := by
  subst h
  simp [obuf, u8v]

set_option maxHeartbeats 1600000 in
set_option maxRecDepth 100000 in
theorem octal_good (n : Int) (W : Nat) (w : World) (h1 : 2 ≤ W) (h2 : W ≤ 20) (h0 : 0 ≤ n) (hm : n ≤ mostI (W : Int)) (hn : n ≤ 9223372036854775807) : Calls Tryz.prog 137 #[.int .i64 n, .int .i64 (W : Int)] w fun e w' => e = .returned (.tuple #[.string (octV n W), .nilIface]) ∧ Ext w w' := by
  have q1 : decide ((W : Int) < 2) = false := decide_eq_false (by omega)
  have q2 : decide ((20 : Int) < (W : Int)) = false := decide_eq_false (by omega)
  have q3 : decide (n < 0) = false := decide_eq_false (by omega)
  have q4 : decide (mostI (W : Int) < n) = false := decide_eq_false (by omega)
  have C1 := Lib.hid (fun w => most_any (W : Int) w)
  have hmk := run_make_row' (P := Tryz.prog) 98 5 (.int .u8 0) 1 Tryz.underlying98 infoU8 rfl .i64 .i64 W (by omega) (by omega)
  rw [obuf_start W n (by omega)] at hmk
  have hsz : 0 < W := by omega
  clear hm
  generalize mostI (W : Int) = mm at *
  go_enter Tryz.func137, Tryz.ntmps137
  go_wp2_with fail
  refine (C1.out _).mono ?_; rintro e w1 ⟨rfl, hx1⟩
  go_wp2_with fail
  go_loopw [0, 28] (fun m i w' => ∃ k : Nat, k < W ∧ m = .int .i64 (o8 n k) ∧ i = .int .i64 (k : Int) ∧ w' = w1.alloc (.cells (obuf W n k) 5)) (fun _ i _ => (W - intOf i).toNat)
  case atStart => exact ⟨0, hsz, rfl, rfl, rfl⟩
  case round =>
    obtain ⟨k, hk, rfl, rfl, rfl⟩ := hrel
    have hbs := obuf_size W n k (by omega)
    have l0 := o8_lo h0 k
    have l1 := o8_hi h0 k
    by_cases hlt : (k : Int) < (W : Int) - 1
    · have i0 : 0 ≤ (W : Int) - 2 - (k : Int) := by omega
      have i1 : (W : Int) - 2 - (k : Int) < (W : Int) := by omega
      have it : ((W : Int) - 2 - (k : Int)).toNat = W - 2 - k := by omega
      have hin : W - 2 - k < W := by omega
      have Hst := Lib.hid (obuf_set W n k (by omega))
      have ho : Hid (o8 n (k + 1) = o8 n k / 8) := Lib.hid rfl
      have hd0 : 0 ≤ 48 + o8 n k % 8 := by omega
      have hd1 : 48 + o8 n k % 8 ≤ 255 := by omega
      go_wp2_with fail
      go_roundw
      case rel => exact ⟨k + 1, by omega, by rw [ho.out], by go_num, by rw [Hst.out]⟩
      case measure => simp [intOf]; omega
    · have hk1 : W = k + 1 := by omega
      have hend := obuf_end W n k hk1
      have hc2 := conv_cells w1 _ (oct n k ++ [0]) W (by rw [List.length_append, oct_length]; simp; omega) hend
      have hv : Hid (octV n W = ⟨(oct n k ++ [0]).toArray⟩) := Lib.hid (by unfold octV; rw [show W - 1 = k by omega])
      clear hend hk1
      go_wp2_with fail
      go_ret2
      exact ⟨ret_val (by rw [hv.out]; rfl), hx1.trans (by show Below _ _ _; repeat' (first | (with_reducible exact Below.refl _ _) | (with_reducible assumption) | (with_reducible refine belowDrewN ?_ _) | (with_reducible refine Below.alloc ?_ ?_ _) | (with_reducible refine Below.drew ?_) | (with_reducible refine Below.setCell ?_ ?_ _) | go_size))⟩

set_option maxRecDepth 100000 in
theorem octal_arg (n W : Int) (w : World) (h : W < 2 ∨ 20 < W) :
    Calls Tryz.prog 137 #[.int .i64 n, .int .i64 W] w fun e w' => e = .returned (.tuple #[.string ⟨#[]⟩, .iface 33 (.int .i64 1)]) ∧ Ext w w' := by
  rcases (show decide (W < 2) = true ∨ (decide (W < 2) = false ∧ decide (20 < W) = true) by simp; omega) with q1 | ⟨q1, q2⟩ <;> clear h
  all_goals
    go_enter Tryz.func137, Tryz.ntmps137
    go_wp2_with fail
    go_ret2
    exact ⟨rfl, (by show Below _ _ _; repeat' (first | (with_reducible exact Below.refl _ _) | (with_reducible assumption) | (with_reducible refine belowDrewN ?_ _) | (with_reducible refine Below.alloc ?_ ?_ _) | (with_reducible refine Below.drew ?_) | (with_reducible refine Below.setCell ?_ ?_ _) | go_size))⟩
set_option maxRecDepth 100000 in
theorem octal_range (n : Int) (W : Int) (w : World) (h1 : 2 ≤ W) (h2 : W ≤ 20) (h : n < 0 ∨ mostI W < n) :
    Calls Tryz.prog 137 #[.int .i64 n, .int .i64 W] w fun e w' => e = .returned (.tuple #[.string ⟨#[]⟩, .iface 33 (.int .i64 2)]) ∧ Ext w w' := by
  have q1 : decide (W < 2) = false := decide_eq_false (by omega)
  have q2 : decide (20 < W) = false := decide_eq_false (by omega)
  have C1 := Lib.hid (fun w => most_any W w)
  by_cases hn : n < 0
  · have q3 : decide (n < 0) = true := decide_eq_true hn
    clear h
    go_enter Tryz.func137, Tryz.ntmps137
    go_wp2_with fail
    go_ret2
    exact ⟨rfl, (by show Below _ _ _; repeat' (first | (with_reducible exact Below.refl _ _) | (with_reducible assumption) | (with_reducible refine belowDrewN ?_ _) | (with_reducible refine Below.alloc ?_ ?_ _) | (with_reducible refine Below.drew ?_) | (with_reducible refine Below.setCell ?_ ?_ _) | go_size))⟩
  · have q3 : decide (n < 0) = false := decide_eq_false hn
    have q4 : decide (mostI W < n) = true := decide_eq_true (by omega)
    clear h
    generalize mostI W = mm at *
    go_enter Tryz.func137, Tryz.ntmps137
    go_wp2_with fail
    refine (C1.out _).mono ?_; rintro e w1 ⟨rfl, hx1⟩
    go_wp2_with fail
    go_ret2
    exact ⟨rfl, hx1⟩

/-! ### The reference -/
theorem itoa8 (v : Int) (h0 : 0 ≤ v) (h1 : v < 8) (w : World) : Calls Tryz.prog 81 #[.int .i64 v] w fun e w' => e = .returned (.string ⟨#[UInt8.ofNat (48 + v).toNat]⟩) ∧ w' = w := by
  obtain ⟨k, rfl⟩ := Int.eq_ofNat_of_zero_le h0
  have := Tryz.strconv_Itoa_small k (by omega) w
  rw [Lib.decDigits, dif_pos (by omega)] at this
  refine this.mono ?_
  rintro e w' ⟨rfl, hw⟩
  exact ⟨by rw [show (48 + (k : Int)).toNat = 48 + k by omega], hw⟩
theorem rep48 (c : Int) (h0 : 0 ≤ c) (h1 : c ≤ 100) (w : World) : Calls Tryz.prog 24 #[.string ⟨#[48]⟩, .int .i64 c] w fun e w' => e = .returned (.string ⟨(List.replicate c.toNat (48 : UInt8)).toArray⟩) ∧ Ext w w' := by
  obtain ⟨k, rfl⟩ := Int.eq_ofNat_of_zero_le h0
  have := Tryz.strings_Repeat ⟨#[48]⟩ k w (by omega) (by show 1 * _ ≤ _; omega)
  have e := Lib.repeatL_replicate 48 1 k
  have e2 : Lib.repeatL (⟨#[48]⟩ : ByteArray).data.toList k = List.replicate k 48 := by
    show Lib.repeatL [48] k = _
    rw [show [(48 : UInt8)] = List.replicate 1 48 from rfl, e, Nat.mul_one]
  rw [e2] at this
  exact this

/-- Between two rounds of the reference. -/
def OrRel (n : Int) (s m : Value) (w wr : World) : Prop := ∃ k : Nat, k ≤ 22 ∧ s = .string ⟨(oct n k).toArray⟩ ∧ m = .int .i64 (o8 n k) ∧ Hid (k = 0 ∨ 0 < o8 n (k - 1)) ∧ wr = w
theorem digits_few {n : Int} {k : Nat} (h0 : 0 ≤ n) (hn : n ≤ 9223372036854775807) (h : 0 < o8 n k) : k ≤ 20 := by
  have h1 : ¬ n < ((8 ^ k : Nat) : Int) := (not_congr (o8_pow n h0 k)).1 (by omega)
  rcases Nat.lt_or_ge 20 k with h2 | h2
  · exfalso
    have h3 : 8 ^ 21 ≤ 8 ^ k := Nat.pow_le_pow_right (by decide) (by omega)
    have h4 : (8 : Nat) ^ 21 = 9223372036854775808 := by decide
    omega
  · exact h2
theorem octE_short {n : Int} {W k : Nat} (h1 : 2 ≤ W) (h2 : W ≤ 20) (h0 : 0 ≤ n) (hk : o8 n k = 0) (hl : k ≤ W - 1) : octE n W = 0 ∧ octV n W = ⟨(List.replicate (W - 1 - k) 48 ++ (oct n k ++ [0])).toArray⟩ := by
  have e0 : o8 n (W - 1) = 0 := by rw [show W - 1 = k + (W - 1 - k) by omega]; exact o8_zero hk _
  have e1 := (o8_pow n h0 (W - 1)).1 e0
  constructor
  · unfold octE mostI
    rw [if_neg (by omega), if_neg, ]
    rw [if_pos ⟨by omega, by omega⟩, show ((W : Int) - 1).toNat = W - 1 by omega]
    show ¬ (n < 0 ∨ ((8 ^ (W - 1) : Nat) : Int) - 1 < n)
    omega
  · unfold octV
    have := oct_pad hk (W - 1 - k)
    rw [show k + (W - 1 - k) = W - 1 by omega] at this
    rw [this, List.append_assoc]
theorem octE_long {n : Int} {W k : Nat} (h1 : 2 ≤ W) (h2 : W ≤ 20) (h0 : 0 ≤ n) (hk : k = 0 ∨ 0 < o8 n (k - 1)) (hl : W - 1 < k) : octE n W = 2 := by
  have e1 : ¬ o8 n (W - 1) = 0 := fun e => by
    have := o8_zero e (k - 1 - (W - 1))
    rw [show W - 1 + (k - 1 - (W - 1)) = k - 1 by omega] at this
    omega
  have e2 := (not_congr (o8_pow n h0 (W - 1))).1 e1
  unfold octE mostI
  rw [if_neg (by omega), if_pos]
  rw [if_pos ⟨by omega, by omega⟩, show ((W : Int) - 1).toNat = W - 1 by omega]
  show (n < 0 ∨ ((8 ^ (W - 1) : Nat) : Int) - 1 < n)
  omega
theorem str_app (a b : List UInt8) : (⟨a.toArray⟩ : ByteArray) ++ ⟨b.toArray⟩ = ⟨(a ++ b).toArray⟩ := by
  apply ByteArray.ext
  simp

set_option maxHeartbeats 1600000 in
set_option maxRecDepth 100000 in
theorem refOctal_good (n : Int) (W : Nat) (w : World) (h1 : 2 ≤ W) (h2 : W ≤ 20) (h0 : 0 ≤ n) (hn : n ≤ 9223372036854775807) : Calls Tryz.prog 76 #[.int .i64 n, .int .i64 (W : Int)] w fun e w' => e = .returned (.tuple #[.string (octS n W), .int .i64 (octE n W)]) ∧ Ext w w' := by
  have g1 : (2 : Int) ≤ (W : Int) := by omega
  have g2 : (W : Int) ≤ 20 := by omega
  have q3 : decide (n < 0) = false := decide_eq_false (by omega)
  go_enter Tryz.func76, Tryz.ntmps76
  go_wp2_with ((with_reducible refine (within_yes' g1 g2 _).mono ?_); rintro e w' ⟨rfl, hw⟩; subst w')
  go_loopw [6, 7] (fun s m wr => OrRel n s m w wr) (fun _ m _ => (intOf m).toNat)
  case atStart => exact ⟨0, by omega, rfl, rfl, Lib.hid (.inl rfl), rfl⟩
  case round =>
    obtain ⟨k, hk, rfl, rfl, hmin, rfl⟩ := hrel
    have l0 := o8_lo h0 k
    have l1 := o8_hi h0 k
    have hsl : (⟨(oct n k).toArray⟩ : ByteArray).size = k := by show (oct n k).toArray.size = k; simp [oct_length]
    by_cases hlt : 0 < o8 n k
    · have hk20 := digits_few h0 hn hlt
      have ho : Hid (o8 n (k + 1) = o8 n k / 8) := Lib.hid rfl
      have hd : Hid (oct n (k + 1) = UInt8.ofNat (48 + o8 n k % 8).toNat :: oct n k) := Lib.hid rfl
      have hms : o8 n k / 8 < o8 n k := by omega
      have C1 := Lib.hid (fun w => itoa8 (o8 n k % 8) (by omega) (by omega) w)
      have Hm : Hid (k + 1 = 0 ∨ 0 < o8 n (k + 1 - 1)) := Lib.hid (.inr hlt)
      go_wp2_with ((with_reducible refine (C1.out _).mono ?_); rintro e w' ⟨rfl, hw⟩; subst w')
      go_roundw
      case rel => exact ⟨k + 1, by omega, congrArg Value.string (by rw [hd.out]; exact str_cons _ _), by rw [ho.out], Hm, rfl⟩
      case measure => simp [intOf]; omega
    · have hz : o8 n k = 0 := by omega
      have Hz := Lib.hid hz
      by_cases hl : (W : Int) - 1 < (k : Int)
      · have hE := octE_long h1 h2 h0 hmin.out (show W - 1 < k by omega)
        have e1 : Hid (octE n W = 2) := Lib.hid hE
        have e2 : Hid (octS n W = ⟨#[]⟩) := Lib.hid (by unfold octS; rw [hE]; rfl)
        have q5 : decide ((W : Int) - 1 < (k : Int)) = true := decide_eq_true hl
        clear hE hz
        go_wp2_with fail
        go_ret2
        exact ⟨ret_val (by rw [e1.out, e2.out]; rfl), (by show Below _ _ _; repeat' (first | (with_reducible exact Below.refl _ _) | (with_reducible assumption) | (with_reducible refine belowDrewN ?_ _) | (with_reducible refine Below.alloc ?_ ?_ _) | (with_reducible refine Below.drew ?_) | (with_reducible refine Below.setCell ?_ ?_ _) | go_size))⟩
      · obtain ⟨hE, hV⟩ := octE_short h1 h2 h0 hz (show k ≤ W - 1 by omega)
        have e1 : Hid (octE n W = 0) := Lib.hid hE
        have e2 : Hid (octS n W = ⟨(List.replicate (W - 1 - k) 48 ++ (oct n k ++ [0])).toArray⟩) := Lib.hid (by unfold octS; rw [hE]; simpa using hV)
        have q5 : decide ((W : Int) - 1 < (k : Int)) = false := decide_eq_false hl
        have C2 := Lib.hid (rep48 ((W : Int) - 1 - (k : Int)) (by omega) (by omega))
        have e3 : Hid (((W : Int) - 1 - (k : Int)).toNat = W - 1 - k) := Lib.hid (by omega)
        have hsz2 : (⟨(List.replicate ((W : Int) - 1 - (k : Int)).toNat (48 : UInt8)).toArray⟩ : ByteArray).size ≤ 20 := by
          show (List.replicate ((W : Int) - 1 - (k : Int)).toNat (48 : UInt8)).toArray.size ≤ 20
          simp; omega
        clear hE hV hz
        generalize hR : (⟨(List.replicate ((W : Int) - 1 - (k : Int)).toNat (48 : UInt8)).toArray⟩ : ByteArray) = R at *
        have HR := Lib.hid hR
        clear hR
        go_wp2_with ((with_reducible refine (C2.out _).mono ?_); rintro e w1 ⟨rfl, hx1⟩)
        go_ret2
        exact ⟨ret_val (by rw [e1.out, e2.out, ← str_app, ← str_app, ← e3.out, HR.out, ← ByteArray.append_assoc]; rfl), hx1⟩
set_option maxRecDepth 100000 in
theorem refOctal_arg (n W : Int) (w : World) (h : W < 2 ∨ 20 < W) :
    Calls Tryz.prog 76 #[.int .i64 n, .int .i64 W] w fun e w' => e = .returned (.tuple #[.string ⟨#[]⟩, .int .i64 1]) ∧ Ext w w' := by
  have c1 := within_no' (n := W) (low := 2) (high := 20) h
  clear h
  go_enter Tryz.func76, Tryz.ntmps76
  go_wp2_with ((refine (c1 _).mono ?_); rintro e w' ⟨rfl, hw⟩; subst w')
  go_ret2
  exact ⟨rfl, (by show Below _ _ _; repeat' (first | (with_reducible exact Below.refl _ _) | (with_reducible assumption) | (with_reducible refine belowDrewN ?_ _) | (with_reducible refine Below.alloc ?_ ?_ _) | (with_reducible refine Below.drew ?_) | (with_reducible refine Below.setCell ?_ ?_ _) | go_size))⟩
set_option maxRecDepth 100000 in
theorem refOctal_neg (n W : Int) (w : World) (h1 : 2 ≤ W) (h2 : W ≤ 20) (hn : n < 0) :
    Calls Tryz.prog 76 #[.int .i64 n, .int .i64 W] w fun e w' => e = .returned (.tuple #[.string ⟨#[]⟩, .int .i64 2]) ∧ Ext w w' := by
  have q3 : decide (n < 0) = true := decide_eq_true hn
  go_enter Tryz.func76, Tryz.ntmps76
  go_wp2_with ((with_reducible refine (within_yes' h1 h2 _).mono ?_); rintro e w' ⟨rfl, hw⟩; subst w')
  refine wp_loop_rounds 1 ?_
  rw [rounds_succ]
  go_wp2_with fail
  go_ret2
  exact ⟨rfl, (by show Below _ _ _; repeat' (first | (with_reducible exact Below.refl _ _) | (with_reducible assumption) | (with_reducible refine belowDrewN ?_ _) | (with_reducible refine Below.alloc ?_ ?_ _) | (with_reducible refine Below.drew ?_) | (with_reducible refine Below.setCell ?_ ?_ _) | go_size))⟩

/-- All ways in one word. -/
theorem octal_any (n W : Int) (hn2 : n ≤ 9223372036854775807) (w : World) : Calls Tryz.prog 137 #[.int .i64 n, .int .i64 W] w fun e w' => e = .returned (.tuple #[.string (octS n W), errOf (octE n W)]) ∧ Ext w w' := by
  by_cases h : W < 2 ∨ 20 < W
  · have e1 : octE n W = 1 := by unfold octE; rw [if_pos h]
    have e2 : octS n W = ⟨#[]⟩ := by unfold octS; rw [e1]; rfl
    rw [e1, e2]; exact octal_arg n W w h
  · obtain ⟨W, rfl⟩ := Int.eq_ofNat_of_zero_le (show 0 ≤ W by omega)
    by_cases h2 : n < 0 ∨ mostI (W : Int) < n
    · have e1 : octE n W = 2 := by unfold octE; rw [if_neg h, if_pos h2]
      have e2 : octS n W = ⟨#[]⟩ := by unfold octS; rw [e1]; rfl
      rw [e1, e2]; exact octal_range n W w (by omega) (by omega) h2
    · have e1 : octE n W = 0 := by unfold octE; rw [if_neg h, if_neg h2]
      have e2 : octS n W = octV n W := by unfold octS; rw [if_pos e1]; rfl
      rw [e1, e2]; exact octal_good n W w (by omega) (by omega) (by omega) (by omega) hn2
theorem refOctal_any (n W : Int) (hn2 : n ≤ 9223372036854775807) (w : World) : Calls Tryz.prog 76 #[.int .i64 n, .int .i64 W] w fun e w' => e = .returned (.tuple #[.string (octS n W), .int .i64 (octE n W)]) ∧ Ext w w' := by
  by_cases h : W < 2 ∨ 20 < W
  · have e1 : octE n W = 1 := by unfold octE; rw [if_pos h]
    have e2 : octS n W = ⟨#[]⟩ := by unfold octS; rw [e1]; rfl
    rw [e1, e2]; exact refOctal_arg n W w h
  · obtain ⟨W, rfl⟩ := Int.eq_ofNat_of_zero_le (show 0 ≤ W by omega)
    by_cases h2 : n < 0
    · have e1 : octE n W = 2 := by unfold octE; rw [if_neg h, if_pos (.inl h2)]
      have e2 : octS n W = ⟨#[]⟩ := by unfold octS; rw [e1]; rfl
      rw [e1, e2]; exact refOctal_neg n W w (by omega) (by omega) h2
    · exact refOctal_good n W w (by omega) (by omega) (by omega) hn2
theorem octS_size (n W : Int) (h : octE n W = 0) : ((octS n W).size : Int) = W := by
  have hW : 2 ≤ W := by unfold octE at h; split at h <;> omega
  unfold octS
  rw [if_pos h]
  show (((oct n (W.toNat - 1) ++ [0]).toArray.size : Nat) : Int) = W
  simp [oct_length]
  omega
theorem octS_le (n W : Int) : (octS n W).size ≤ 20 := by
  by_cases h : octE n W = 0
  · have h1 := octS_size n W h
    have : W ≤ 20 := by unfold octE at h; split at h <;> omega
    omega
  · unfold octS; rw [if_neg h]; decide
end Go.Proofs.YtnbcbipigiopbaaGreatDoor
/-
  number.Write and the reference's NumberWrite: a number in a field, in either way.
-/
namespace Go.Proofs.YtnbcbipigiopbaaGreatDoor
open Go.RowKit Go.PlainAid

/-- '==' between an error and an Errno. -/
theorem run_equalIn_errno (w : World) (d : Nat) (a b : Int) : (Op.equalIn (d + 2) 39 (.iface 33 (.int .i64 a)) (.iface 33 (.int .i64 b))).run Tryz.prog w = .ok (a == b) w := by
  obtain ⟨i, hinfo, hcomp⟩ : ∃ i, Tryz.prog.info? 33 = some i ∧ i.comparable = true := by
    have h : (Tryz.prog.info? 33).map (·.comparable) = some true := by kernel_rfl
    obtain ⟨i, h1, h2⟩ := Option.map_eq_some_iff.1 h
    exact ⟨i, h1, h2⟩
  simp [Op.equalIn, run_underlying Tryz.underlying39, run_underlying Tryz.underlying33, typeInfo, hinfo, hcomp]
theorem eqlErr (k e : Int) (w : World) (he : e ≠ 0) : (binOp .eql 39 (errOf k) (.iface 33 (.int .i64 e))).run Tryz.prog w = .ok (.bool (k == e)) w := by
  unfold errOf
  split
  · rename_i h
    subst h
    rw [run_eql_iface_nil_left w 33 (.int .i64 e) Tryz.underlying39]
    have : (0 == e) = false := by rw [beq_eq_false_iff_ne]; exact fun h => he h.symm
    rw [this]
  · simp only [binOp]
    simp [Op.equal, Op.maxDepth, run_equalIn_errno w 9998 k e]

theorem eqlGuard (k e : Int) (a b : Operand) (w : World) : (eqGuard .eql 39 a b (errOf k) (.iface 33 (.int .i64 e))).run Tryz.prog w = .ok () w := by
  unfold errOf
  split <;> simp [eqGuard]

/-- number.Binary's three ways, with the text's length. -/
theorem binary_ways2 (n W : Int) (hn1 : -9223372036854775808 ≤ n) (hn2 : n ≤ 9223372036854775807) : ∃ (s : ByteArray) (k : Int), s.size ≤ 20 ∧ (k = 0 → (s.size : Int) = W) ∧
    (∀ w, Calls Tryz.prog 148 #[.int .i64 n, .int .i64 W] w fun e w' => e = .returned (.tuple #[.string s, errOf k]) ∧ Ext w w') ∧
    (∀ w, Calls Tryz.prog 141 #[.int .i64 n, .int .i64 W] w fun e w' => e = .returned (.tuple #[.string s, .int .i64 k]) ∧ Ext w w') := by
  by_cases h : W < 8 ∨ 20 < W
  · exact ⟨⟨#[]⟩, 1, by decide, fun h => absurd h (by decide), fun w => binary_arg n W w h, fun w => refBinary_arg n W w h⟩
  · by_cases h8 : W = 8 ∧ (n < -36028797018963968 ∨ 36028797018963967 < n)
    · obtain ⟨rfl, h8⟩ := h8
      exact ⟨⟨#[]⟩, 2, by decide, fun h => absurd h (by decide), fun w => binary_range n w h8, fun w => refBinary_range n w h8⟩
    · obtain ⟨W, rfl⟩ := Int.eq_ofNat_of_zero_le (show 0 ≤ W by omega)
      have hz : (binV n W).size = W := by
        show (topU n :: low n (W - 1)).toArray.size = W
        simp [low_length]; omega
      exact ⟨binV n W, 0, by omega, fun _ => by omega, fun w => binary_good n W w (by omega) (by omega) (by omega), fun w => refBinary_good n W w (by omega) (by omega) (by omega) hn1 hn2⟩

set_option maxHeartbeats 1600000 in
set_option maxRecDepth 100000 in
theorem write_ways2 (n W : Int) (b : Bool) (hn1 : -9223372036854775808 ≤ n) (hn2 : n ≤ 9223372036854775807) : ∃ (s : ByteArray) (k : Int), s.size ≤ 20 ∧ (k = 0 → (s.size : Int) = W) ∧ (octE n W = 0 → k = 0) ∧
    (∀ w, Calls Tryz.prog 120 #[.int .i64 n, .int .i64 W, .bool b] w fun e w' => e = .returned (.tuple #[.string s, errOf k]) ∧ Ext w w') ∧
    (∀ w, Calls Tryz.prog 103 #[.int .i64 n, .int .i64 W, .bool b] w fun e w' => e = .returned (.tuple #[.string s, .int .i64 k]) ∧ Ext w w') := by
  have C1 := Lib.hid (fun w => octal_any n W hn2 w)
  have C2 := Lib.hid (fun w => refOctal_any n W hn2 w)
  have hos := octS_le n W
  have hoz := octS_size n W
  have Q := fun w => eqlErr (octE n W) 2 w (by decide)
  have G := fun a b w => eqlGuard (octE n W) 2 a b w
  obtain ⟨s, k, hs, hk, c3, c4⟩ := binary_ways2 n W hn1 hn2
  have C3 := Lib.hid c3
  have C4 := Lib.hid c4
  clear c3 c4
  generalize octE n W = x at *
  generalize octS n W = t at *
  generalize hE : errOf x = ex at *
  have HE := Lib.hid hE
  clear hE
  by_cases hb : x = 2 ∧ b = true ∧ 8 ≤ W
  · obtain ⟨rfl, rfl, h8⟩ := hb
    refine ⟨s, k, hs, hk, fun h => absurd h (by decide), fun w => ?_, fun w => ?_⟩
    · go_enter Tryz.func120, Tryz.ntmps120
      go_wp2_with fail
      refine (C1.out _).mono ?_; rintro e w1 ⟨rfl, hx1⟩
      go_wp2_with fail
      refine (C3.out _).mono ?_; rintro e w2 ⟨rfl, hx2⟩
      go_wp2_with fail
      go_ret2
      exact ⟨rfl, hx1.trans hx2⟩
    · go_enter Tryz.func103, Tryz.ntmps103
      go_wp2_with fail
      refine (C2.out _).mono ?_; rintro e w1 ⟨rfl, hx1⟩
      go_wp2_with fail
      refine (C4.out _).mono ?_; rintro e w2 ⟨rfl, hx2⟩
      go_wp2_with fail
      go_ret2
      exact ⟨rfl, hx1.trans hx2⟩
  · refine ⟨t, x, hos, hoz, fun h => h, fun w => ?_, fun w => ?_⟩
    · rw [HE.out]
      rcases (show (x == 2) = false ∨ ((x == 2) = true ∧ b = false) ∨ ((x == 2) = true ∧ b = true ∧ decide (8 ≤ W) = false) by
        cases h1 : x == 2 with
        | false => exact .inl rfl
        | true =>
          cases b with
          | false => exact .inr (.inl ⟨rfl, rfl⟩)
          | true => exact .inr (.inr ⟨rfl, rfl, decide_eq_false fun h => hb ⟨by simpa using h1, rfl, h⟩⟩)) with q1 | ⟨q1, rfl⟩ | ⟨q1, rfl, q2⟩
      all_goals
        clear hb
        go_enter Tryz.func120, Tryz.ntmps120
        go_wp2_with fail
        refine (C1.out _).mono ?_; rintro e w1 ⟨rfl, hx1⟩
        go_wp2_with fail
        go_ret2
        exact ⟨rfl, hx1⟩
    · rcases (show (x == 2) = false ∨ ((x == 2) = true ∧ b = false) ∨ ((x == 2) = true ∧ b = true ∧ decide (8 ≤ W) = false) by
        cases h1 : x == 2 with
        | false => exact .inl rfl
        | true =>
          cases b with
          | false => exact .inr (.inl ⟨rfl, rfl⟩)
          | true => exact .inr (.inr ⟨rfl, rfl, decide_eq_false fun h => hb ⟨by simpa using h1, rfl, h⟩⟩)) with q1 | ⟨q1, rfl⟩ | ⟨q1, rfl, q2⟩
      all_goals
        clear hb
        go_enter Tryz.func103, Tryz.ntmps103
        go_wp2_with fail
        refine (C2.out _).mono ?_; rintro e w1 ⟨rfl, hx1⟩
        go_wp2_with fail
        go_ret2
        exact ⟨rfl, hx1⟩
theorem write_ways (n W : Int) (b : Bool) (hn1 : -9223372036854775808 ≤ n) (hn2 : n ≤ 9223372036854775807) : ∃ (s : ByteArray) (k : Int), s.size ≤ 20 ∧ (k = 0 → (s.size : Int) = W) ∧
    (∀ w, Calls Tryz.prog 120 #[.int .i64 n, .int .i64 W, .bool b] w fun e w' => e = .returned (.tuple #[.string s, errOf k]) ∧ Ext w w') ∧
    (∀ w, Calls Tryz.prog 103 #[.int .i64 n, .int .i64 W, .bool b] w fun e w' => e = .returned (.tuple #[.string s, .int .i64 k]) ∧ Ext w w') :=
  have ⟨s, k, h1, h2, _, h3, h4⟩ := write_ways2 n W b hn1 hn2
  ⟨s, k, h1, h2, h3, h4⟩
end Go.Proofs.YtnbcbipigiopbaaGreatDoor
/-
  Contracts of the functions on pieces: hole.Right, hole.Size, MapRight, MapSize.
-/
namespace Go.Proofs.YtnbcbipigiopbaaGreatDoor
open Go.RowKit Go.WideShapes

/-- The slice value v holds n pieces: piece k lies at A k and has S k bytes. -/
def IsPieces (w : World) (v : Value) (n : Nat) (A S : Nat → Int) : Prop :=
  ((∃ a c, v = .slice a 0 c) ∧ n = 0) ∨ ∃ (b off cap : Nat), v = .slice (some ⟨b, off, none⟩) n cap ∧ n ≤ 8796093022200 ∧
    ∀ k, k < n → w.cell? ⟨b, off + k * 2, none⟩ = some (.int .i64 (A k)) ∧ w.cell? ⟨b, off + k * 2 + 1, none⟩ = some (.int .i64 (S k))
theorem IsPieces.ext {w w' : World} {v : Value} {n : Nat} {A S : Nat → Int} (h : IsPieces w v n A S) (hE : Ext w w') : IsPieces w' v n A S :=
  h.imp id fun ⟨b, off, cap, hv, hn, hc⟩ => ⟨b, off, cap, hv, hn, fun k hk => ⟨hE.cell (hc k hk).1, hE.cell (hc k hk).2⟩⟩

/-- Piece k is as it must be. -/
def pieceB (A S : Nat → Int) (size : Int) (k : Nat) : Bool :=
  decide (1 ≤ S k) && decide (0 ≤ A k) && decide (S k ≤ size) && decide (A k ≤ size - S k) && (decide (k = 0) || decide (A (k - 1) + S (k - 1) < A k))
def holeB (n : Nat) (A S : Nat → Int) (size : Int) : Bool := decide (0 ≤ size) && decide (n ≤ 20) && (List.range n).all (pieceB A S size)

theorem holeB_bad {n k : Nat} {A S : Nat → Int} {size : Int} (hk : k < n) (h : pieceB A S size k = false) : holeB n A S size = false := by
  unfold holeB
  have : (List.range n).all (pieceB A S size) = false := by
    rw [List.all_eq_false]
    exact ⟨k, by simpa using hk, by simp [h]⟩
  simp [this]
theorem holeB_all {n : Nat} {A S : Nat → Int} {size : Int} (h0 : 0 ≤ size) (hn : n ≤ 20) (h : ∀ j, j < n → pieceB A S size j = true) : holeB n A S size = true := by
  unfold holeB
  have : (List.range n).all (pieceB A S size) = true := by
    rw [List.all_eq_true]
    intro x hx
    exact h x (by simpa using hx)
  simp [this, h0, hn]
theorem piece_split {A S : Nat → Int} {size : Int} {k : Nat} (h : pieceB A S size k = true) : 1 ≤ S k ∧ 0 ≤ A k ∧ S k ≤ size ∧ A k ≤ size - S k := by
  simp [pieceB] at h
  omega
theorem allBelow_succ {p : Nat → Bool} {k : Nat} (h : ∀ j, j < k → p j = true) (hk : p k = true) : ∀ j, j < k + 1 → p j = true := fun j hj => by
  rcases Nat.lt_succ_iff_lt_or_eq.1 hj with h' | rfl
  · exact h j h'
  · exact hk

set_option maxHeartbeats 4000000 in
set_option maxRecDepth 100000 in
theorem holeRight_any (w : World) (v : Value) (n : Nat) (A S : Nat → Int) (size : Int) (hs : size ≤ 9223372036854775807) (h : IsPieces w v n A S) :
    Calls Tryz.prog 132 #[v, .int .i64 size] w fun e w' => e = .returned (.bool (holeB n A S size)) ∧ Ext w w' := by
  by_cases h0 : size < 0
  · have er : Hid (holeB n A S size = false) := Lib.hid (by unfold holeB; simp; omega)
    rcases h with ⟨⟨a0, c0, rfl⟩, rfl⟩ | ⟨b, off, cap, rfl, hn, hc⟩
    all_goals
      go_enter Tryz.func132, Tryz.ntmps132
      go_wp2_with fail
      go_ret
      exact ⟨ret_bool (by rw [er.out]), (by show Below _ _ _; repeat' (first | (with_reducible exact Below.refl _ _) | (with_reducible assumption) | (with_reducible refine belowDrewN ?_ _) | (with_reducible refine Below.alloc ?_ ?_ _) | (with_reducible refine Below.drew ?_) | (with_reducible refine Below.setCell ?_ ?_ _) | go_size))⟩
  · have h0' : 0 ≤ size := by omega
    by_cases h20 : 20 < n
    · have er : Hid (holeB n A S size = false) := Lib.hid (by unfold holeB; simp; omega)
      rcases h with ⟨⟨a0, c0, rfl⟩, rfl⟩ | ⟨b, off, cap, rfl, hn, hc⟩
      · omega
      · go_enter Tryz.func132, Tryz.ntmps132
        go_wp2_with fail
        go_ret
        exact ⟨ret_bool (by rw [er.out]), (by show Below _ _ _; repeat' (first | (with_reducible exact Below.refl _ _) | (with_reducible assumption) | (with_reducible refine belowDrewN ?_ _) | (with_reducible refine Below.alloc ?_ ?_ _) | (with_reducible refine Below.drew ?_) | (with_reducible refine Below.setCell ?_ ?_ _) | go_size))⟩
    · have h20' : n ≤ 20 := by omega
      rcases h with ⟨⟨a0, c0, rfl⟩, rfl⟩ | ⟨b, off, cap, rfl, hn, hc⟩
      · have er : Hid (holeB 0 A S size = true) := Lib.hid (holeB_all h0' (by omega) fun j hj => by omega)
        go_enter Tryz.func132, Tryz.ntmps132
        go_wp2_with fail
        refine wp_loop_rounds 1 ?_
        rw [rounds_succ]
        go_wp2_with fail
        go_ret
        exact ⟨ret_bool (by rw [er.out]), (by show Below _ _ _; repeat' (first | (with_reducible exact Below.refl _ _) | (with_reducible assumption) | (with_reducible refine belowDrewN ?_ _) | (with_reducible refine Below.alloc ?_ ?_ _) | (with_reducible refine Below.drew ?_) | (with_reducible refine Below.setCell ?_ ?_ _) | go_size))⟩
      · go_enter Tryz.func132, Tryz.ntmps132
        go_wp2_with fail
        go_loopw [16] (fun i wr => ∃ k : Nat, k ≤ n ∧ i = .int .i64 (k : Int) ∧ (∀ j, j < k → pieceB A S size j = true) ∧ Ext w wr) (fun i _ => n - (intOf i).toNat)
        case atStart => exact ⟨0, by omega, rfl, fun j hj => by omega, Ext.refl _⟩
        case round =>
          obtain ⟨k, hk, rfl, hall, hE⟩ := hrel
          have Hall := Lib.hid hall
          clear hall
          by_cases hlt : k < n
          · have g1 := hE.cell (hc k hlt).1
            have g2 := hE.cell (hc k hlt).2
            have Hc := Lib.hid hc
            clear hc
            by_cases hg : 1 ≤ S k ∧ 0 ≤ A k ∧ S k ≤ size ∧ A k ≤ size - S k
            · obtain ⟨c1, c2, c3, c4⟩ := hg
              cases k with
              | zero =>
                have g1 : wr.cell? ⟨b, off, none⟩ = some (.int .i64 (A 0)) := by simpa using g1
                have g2 : wr.cell? ⟨b, off + 1, none⟩ = some (.int .i64 (S 0)) := by simpa using g2
                have hp : pieceB A S size 0 = true := by simp [pieceB, c1, c2, c3, c4]
                have Hp := Lib.hid hp
                clear hp
                go_wp2_with fail
                refine wp_region_det (Stood _) (by kernel_rfl) (by kernel_rfl) (Stood.start _) ?_
                repeat (first
                  | (refine det_skip (by rfl) ?_; simp only [Act.put, List.setIfInBounds_toArray, List.set_cons_zero, List.set_cons_succ])
                  | (refine det_op (v := ?_) rfl (by rfl) (fun w' hS => ?_) ?_; rotate_left; (focus (obtain ⟨hcl, hxt⟩ := hS; go_wp2_with (fail); (first | refine ⟨?_, rfl, hcl, hxt⟩ | refine ⟨?_, rfl, Stood.of (hxt.trans (by assumption))⟩); (first | (simp only [List.getElem?_toArray, List.getElem?_cons_succ, List.getElem?_cons_zero]; rfl) | rfl))); simp only [Act.put, List.setIfInBounds_toArray, List.set_cons_zero, List.set_cons_succ]))
                refine det_end ?_
                intro w2 hS
                have hx := hS.2
                clear hS
                go_wp2_with fail
                go_roundw
                case rel => exact ⟨1, by omega, by go_num, fun j hj => (by rw [show j = 0 from by omega]; exact Hp.out), hE.trans (Ext.trans (by show Below _ _ _; repeat' (first | (with_reducible exact Below.refl _ _) | (with_reducible assumption) | (with_reducible refine belowDrewN ?_ _) | (with_reducible refine Below.alloc ?_ ?_ _) | (with_reducible refine Below.drew ?_) | (with_reducible refine Below.setCell ?_ ?_ _) | go_size)) hx)⟩
                case measure => simp [intOf]; omega
              | succ m =>
                have g3 := hE.cell (Hc.out m (by omega)).1
                have g4 := hE.cell (Hc.out m (by omega)).2
                obtain ⟨d1, d2, d3, d4⟩ := piece_split (Hall.out m (by omega))
                have e1 : ((m + 1 : Nat) : Int) - 1 = m := by omega
                have lb : b < wr.heap.size := World.block_lt_of_cell? wr _ g3
                have lb1 : b < wr.heap.size + 1 := by omega
                have q1 : decide (S (m + 1) < 1) = false := by simpa using c1
                have q2 : decide (A (m + 1) < 0) = false := by simpa using c2
                have q3 : decide (size < S (m + 1)) = false := by simpa using c3
                have q4 : decide (size - S (m + 1) < A (m + 1)) = false := by simpa using c4
                by_cases hb : A (m + 1) ≤ A m + S m
                · have hp : pieceB A S size (m + 1) = false := by simp [pieceB]; omega
                  have er := Lib.hid (holeB_bad hlt hp)
                  clear hp
                  go_wp2_with fail
                  refine wp_region_det (Stood _) (by kernel_rfl) (by kernel_rfl) (Stood.start _) ?_
                  repeat (first
                    | (refine det_skip (by rfl) ?_; simp only [Act.put, List.setIfInBounds_toArray, List.set_cons_zero, List.set_cons_succ])
                    | (refine det_op (v := ?_) rfl (by rfl) (fun w' hS => ?_) ?_; rotate_left; (focus (obtain ⟨hcl, hxt⟩ := hS; go_wp2_with (fail); (first | refine ⟨?_, rfl, hcl, hxt⟩ | refine ⟨?_, rfl, Stood.of (hxt.trans (by assumption))⟩); (first | (simp only [List.getElem?_toArray, List.getElem?_cons_succ, List.getElem?_cons_zero]; rfl) | rfl))); simp only [Act.put, List.setIfInBounds_toArray, List.set_cons_zero, List.set_cons_succ]))
                  refine det_end ?_
                  intro w2 hS
                  have hx := hS.2
                  clear hS
                  go_wp2_with fail
                  go_ret
                  exact ⟨ret_bool (by rw [er.out]), hE.trans (Ext.trans (by show Below _ _ _; repeat' (first | (with_reducible exact Below.refl _ _) | (with_reducible assumption) | (with_reducible refine belowDrewN ?_ _) | (with_reducible refine Below.alloc ?_ ?_ _) | (with_reducible refine Below.drew ?_) | (with_reducible refine Below.setCell ?_ ?_ _) | go_size)) hx)⟩
                · have hp : pieceB A S size (m + 1) = true := by simp [pieceB, c1, c2, c3, c4]; omega
                  have Hp := Lib.hid hp
                  have hb' : A m + S m < A (m + 1) := by omega
                  clear hp hb
                  go_wp2_with fail
                  refine wp_region_det (Stood _) (by kernel_rfl) (by kernel_rfl) (Stood.start _) ?_
                  repeat (first
                    | (refine det_skip (by rfl) ?_; simp only [Act.put, List.setIfInBounds_toArray, List.set_cons_zero, List.set_cons_succ])
                    | (refine det_op (v := ?_) rfl (by rfl) (fun w' hS => ?_) ?_; rotate_left; (focus (obtain ⟨hcl, hxt⟩ := hS; go_wp2_with (fail); (first | refine ⟨?_, rfl, hcl, hxt⟩ | refine ⟨?_, rfl, Stood.of (hxt.trans (by assumption))⟩); (first | (simp only [List.getElem?_toArray, List.getElem?_cons_succ, List.getElem?_cons_zero]; rfl) | rfl))); simp only [Act.put, List.setIfInBounds_toArray, List.set_cons_zero, List.set_cons_succ]))
                  refine det_end ?_
                  intro w2 hS
                  have hx := hS.2
                  clear hS
                  go_wp2_with fail
                  go_roundw
                  case rel => exact ⟨m + 2, by omega, by go_num, allBelow_succ Hall.out Hp.out, hE.trans (Ext.trans (by show Below _ _ _; repeat' (first | (with_reducible exact Below.refl _ _) | (with_reducible assumption) | (with_reducible refine belowDrewN ?_ _) | (with_reducible refine Below.alloc ?_ ?_ _) | (with_reducible refine Below.drew ?_) | (with_reducible refine Below.setCell ?_ ?_ _) | go_size)) hx)⟩
                  case measure => simp [intOf]; omega
            · have hp : pieceB A S size k = false := by simp [pieceB]; omega
              have er := Lib.hid (holeB_bad hlt hp)
              clear hp
              go_wp2_with fail
              go_ways
              all_goals first
                | (exfalso; omega)
                | (go_ret; exact ⟨ret_bool (by rw [er.out]), hE.trans (by show Below _ _ _; repeat' (first | (with_reducible exact Below.refl _ _) | (with_reducible assumption) | (with_reducible refine belowDrewN ?_ _) | (with_reducible refine Below.alloc ?_ ?_ _) | (with_reducible refine Below.drew ?_) | (with_reducible refine Below.setCell ?_ ?_ _) | go_size))⟩)
          · obtain rfl : k = n := by omega
            have er := Lib.hid (holeB_all h0' h20' Hall.out)
            go_wp2_with fail
            go_ret
            exact ⟨ret_bool (by rw [er.out]), hE⟩
end Go.Proofs.YtnbcbipigiopbaaGreatDoor
/-
  Contracts of hole.Size and of the reference's MapSize.
-/
namespace Go.Proofs.YtnbcbipigiopbaaGreatDoor
open Go.RowKit Go.WideShapes

/-- The sum of the first k sizes, as Go adds them. -/
def sumW (S : Nat → Int) : Nat → Int
  | 0 => 0
  | k + 1 => wrap64 (sumW S k + S k)

theorem holeSize_any (w : World) (v : Value) (n : Nat) (A S : Nat → Int) (h : IsPieces w v n A S) : Calls Tryz.prog 133 #[v] w fun e w' => e = .returned (.int .i64 (sumW S n)) ∧ Ext w w' := by
  rcases h with ⟨⟨a0, c0, rfl⟩, rfl⟩ | ⟨b, off, cap, rfl, hn, hc⟩
  · go_enter Tryz.func133, Tryz.ntmps133
    go_wp2_with fail
    refine wp_loop_rounds 1 ?_
    rw [rounds_succ]
    go_wp2_with fail
    go_ret
    exact ⟨rfl, (by show Below _ _ _; repeat' (first | (with_reducible exact Below.refl _ _) | (with_reducible assumption) | (with_reducible refine belowDrewN ?_ _) | (with_reducible refine Below.alloc ?_ ?_ _) | (with_reducible refine Below.drew ?_) | (with_reducible refine Below.setCell ?_ ?_ _) | go_size))⟩
  · go_enter Tryz.func133, Tryz.ntmps133
    go_wp2_with fail
    go_loopw [3, 8] (fun t i wr => ∃ k : Nat, k ≤ n ∧ i = .int .i64 (k : Int) ∧ t = .int .i64 (sumW S k) ∧ Ext w wr) (fun _ i _ => n - (intOf i).toNat)
    case atStart => exact ⟨0, by omega, rfl, rfl, Ext.refl _⟩
    case round =>
      obtain ⟨k, hk, rfl, rfl, hE⟩ := hrel
      by_cases hlt : k < n
      · have g1 := hE.cell (hc k hlt).1
        have g2 := hE.cell (hc k hlt).2
        have hs : Hid (sumW S (k + 1) = wrap64 (sumW S k + S k)) := Lib.hid rfl
        have Hc := Lib.hid hc
        clear hc
        go_wp2_with fail
        go_roundw
        case rel => exact ⟨k + 1, by omega, by go_num, by rw [hs.out], hE.trans (by show Below _ _ _; repeat' (first | (with_reducible exact Below.refl _ _) | (with_reducible assumption) | (with_reducible refine belowDrewN ?_ _) | (with_reducible refine Below.alloc ?_ ?_ _) | (with_reducible refine Below.drew ?_) | (with_reducible refine Below.setCell ?_ ?_ _) | go_size))⟩
        case measure => simp [intOf]; omega
      · obtain rfl : k = n := by omega
        go_wp2_with fail
        go_ret
        exact ⟨rfl, hE⟩

theorem mapSize_any (w : World) (v : Value) (n : Nat) (A S : Nat → Int) (h : IsPieces w v n A S) : Calls Tryz.prog 74 #[v] w fun e w' => e = .returned (.int .i64 (sumW S n)) ∧ Ext w w' := by
  rcases h with ⟨⟨a0, c0, rfl⟩, rfl⟩ | ⟨b, off, cap, rfl, hn, hc⟩
  · go_enter Tryz.func74, Tryz.ntmps74
    go_wp2_with fail
    refine wp_loop_rounds 1 ?_
    rw [rounds_succ]
    go_wp2_with fail
    go_ret
    exact ⟨rfl, (by show Below _ _ _; repeat' (first | (with_reducible exact Below.refl _ _) | (with_reducible assumption) | (with_reducible refine belowDrewN ?_ _) | (with_reducible refine Below.alloc ?_ ?_ _) | (with_reducible refine Below.drew ?_) | (with_reducible refine Below.setCell ?_ ?_ _) | go_size))⟩
  · go_enter Tryz.func74, Tryz.ntmps74
    go_wp2_with fail
    go_loopw [3, 8] (fun t i wr => ∃ k : Nat, k ≤ n ∧ i = .int .i64 (k : Int) ∧ t = .int .i64 (sumW S k) ∧ Ext w wr) (fun _ i _ => n - (intOf i).toNat)
    case atStart => exact ⟨0, by omega, rfl, rfl, Ext.refl _⟩
    case round =>
      obtain ⟨k, hk, rfl, rfl, hE⟩ := hrel
      by_cases hlt : k < n
      · have g1 := hE.cell (hc k hlt).1
        have g2 := hE.cell (hc k hlt).2
        have hs : Hid (sumW S (k + 1) = wrap64 (sumW S k + S k)) := Lib.hid rfl
        have Hc := Lib.hid hc
        clear hc
        go_wp2_with fail
        go_roundw
        case rel => exact ⟨k + 1, by omega, by go_num, by rw [hs.out], hE.trans (by show Below _ _ _; repeat' (first | (with_reducible exact Below.refl _ _) | (with_reducible assumption) | (with_reducible refine belowDrewN ?_ _) | (with_reducible refine Below.alloc ?_ ?_ _) | (with_reducible refine Below.drew ?_) | (with_reducible refine Below.setCell ?_ ?_ _) | go_size))⟩
        case measure => simp [intOf]; omega
      · obtain rfl : k = n := by omega
        go_wp2_with fail
        go_ret
        exact ⟨rfl, hE⟩

end Go.Proofs.YtnbcbipigiopbaaGreatDoor
/-
  What bytes put into their pieces come to, in plain words. No program, no conditions.
-/
namespace Go.Proofs.YtnbcbipigiopbaaGreatDoor
open Go.RowKit

/-- How many bytes the first k pieces have. -/
def sN (S : Nat → Int) : Nat → Nat
  | 0 => 0
  | k + 1 => sN S k + (S k).toNat
/-- What lies up to the end of the first k pieces. -/
def outL (d : List UInt8) (A S : Nat → Int) : Nat → List UInt8
  | 0 => []
  | k + 1 => outL d A S k ++ (List.replicate ((A k).toNat - (outL d A S k).length) 0 ++ (d.drop (sN S k)).take (S k).toNat)
/-- Where the first k pieces end. -/
def endN (A S : Nat → Int) : Nat → Nat
  | 0 => 0
  | k + 1 => (A k + S k).toNat

theorem holeB_pieces {n k : Nat} {A S : Nat → Int} {size : Int} (h : holeB n A S size = true) (hk : k < n) : pieceB A S size k = true := by
  unfold holeB at h
  simp only [Bool.and_eq_true] at h
  exact List.all_eq_true.1 h.2 k (by simpa using hk)
theorem piece_ahead {A S : Nat → Int} {size : Int} {k : Nat} (h : pieceB A S size k = true) (hp : ∀ j, j < k → pieceB A S size j = true) : endN A S k ≤ (A k).toNat := by
  cases k with
  | zero => simp [endN]
  | succ m =>
    have h1 := hp m (by omega)
    simp [pieceB] at h h1
    simp only [endN]
    omega
theorem endN_le {A S : Nat → Int} {size : Int} {k : Nat} (h0 : 0 ≤ size) (hp : ∀ j, j < k → pieceB A S size j = true) : (endN A S k : Int) ≤ size := by
  cases k with
  | zero => simpa [endN] using h0
  | succ m =>
    have h1 := hp m (by omega)
    simp [pieceB] at h1
    simp only [endN]
    omega
theorem sN_le_end {A S : Nat → Int} {size : Int} : ∀ (k : Nat), (∀ j, j < k → pieceB A S size j = true) → sN S k ≤ endN A S k
  | 0, _ => Nat.le_refl _
  | k + 1, hp => by
    have ih := sN_le_end k fun j hj => hp j (by omega)
    have h1 := piece_ahead (hp k (by omega)) fun j hj => hp j (by omega)
    have h2 := piece_split (hp k (by omega))
    simp only [sN, endN]
    omega
theorem sN_mono (S : Nat → Int) {j k : Nat} (h : j ≤ k) : sN S j ≤ sN S k := by
  induction k with
  | zero => obtain rfl : j = 0 := by omega
            exact Nat.le_refl _
  | succ k ih =>
    rcases Nat.lt_or_ge j (k + 1) with h1 | h1
    · have := ih (by omega)
      simp only [sN]; omega
    · obtain rfl : j = k + 1 := by omega
      exact Nat.le_refl _
theorem sumW_sN {A S : Nat → Int} {size : Int} (h0 : 0 ≤ size) (hs : size ≤ 9223372036854775807) : ∀ (k : Nat), (∀ j, j < k → pieceB A S size j = true) → sumW S k = (sN S k : Int)
  | 0, _ => rfl
  | k + 1, hp => by
    have ih := sumW_sN h0 hs k fun j hj => hp j (by omega)
    have h1 := sN_le_end (k + 1) hp
    have h2 := endN_le h0 hp
    have h3 := piece_split (hp k (by omega))
    simp only [sN] at h1
    simp only [sumW, sN, ih]
    have e : ((sN S k : Int) + S k) = ((sN S k + (S k).toNat : Nat) : Int) := by omega
    rw [e]
    unfold wrap64
    omega
theorem outL_len {A S : Nat → Int} {size : Int} (d : List UInt8) : ∀ (k : Nat), (∀ j, j < k → pieceB A S size j = true) → sN S k ≤ d.length → (outL d A S k).length = endN A S k
  | 0, _, _ => rfl
  | k + 1, hp, hd => by
    simp only [sN] at hd
    have ih := outL_len d k (fun j hj => hp j (by omega)) (by omega)
    have h1 := piece_ahead (hp k (by omega)) fun j hj => hp j (by omega)
    have h2 := piece_split (hp k (by omega))
    have e : endN A S (k + 1) = (A k + S k).toNat := rfl
    rw [e]
    simp only [outL, List.length_append, List.length_replicate, List.length_take, List.length_drop, ih]
    omega
/-- The buffer behind k pieces. -/
def rowP (d : List UInt8) (A S : Nat → Int) (z : Nat) (k : Nat) : List UInt8 := outL d A S k ++ List.replicate (z - (outL d A S k).length) 0
theorem rowP_len {A S : Nat → Int} {z k : Nat} (d : List UInt8) (hp : ∀ j, j < k → pieceB A S z j = true) (hd : sN S k ≤ d.length) : (rowP d A S z k).length = z := by
  have h1 := outL_len d k hp hd
  have h2 := endN_le (by omega) hp
  simp only [rowP, List.length_append, List.length_replicate, h1]
  omega
theorem rowP_step {A S : Nat → Int} {z k : Nat} (d : List UInt8) (hp : ∀ j, j < k + 1 → pieceB A S z j = true) (hd : sN S (k + 1) ≤ d.length) :
    splice (rowP d A S z k) (A k).toNat ((d.drop (sN S k)).take (S k).toNat) = rowP d A S z (k + 1) := by
  have e1 := outL_len d (k + 1) hp hd
  simp only [sN] at hd
  have e0 := outL_len d k (fun j hj => hp j (by omega)) (by omega)
  have h1 := piece_ahead (hp k (by omega)) fun j hj => hp j (by omega)
  have h2 := piece_split (hp k (by omega))
  have hl : ((d.drop (sN S k)).take (S k).toNat).length = (S k).toNat := by simp; omega
  unfold splice rowP
  rw [hl, e1, List.take_append, e0, List.take_of_length_le (by omega), List.take_replicate, List.drop_append, e0, List.drop_eq_nil_of_le (show (outL d A S k).length ≤ (A k).toNat + (S k).toNat by omega), List.drop_replicate, List.nil_append]
  have e2 : endN A S (k + 1) = (A k + S k).toNat := rfl
  rw [e2]
  simp only [outL, e0, List.append_assoc]
  rw [show min ((A k).toNat - endN A S k) (z - endN A S k) = (A k).toNat - endN A S k by omega, show z - endN A S k - ((A k).toNat + (S k).toNat - endN A S k) = z - (A k + S k).toNat by omega]
theorem rowP_zero (d : List UInt8) (A S : Nat → Int) (z : Nat) : rowP d A S z 0 = List.replicate z 0 := by simp [rowP, outL]

/-- Which error, and the file. -/
def putE (dn : Nat) (n : Nat) (A S : Nat → Int) (size : Int) : Int := if holeB n A S size && ((dn : Int) == sumW S n) then (if 4000 < size then 4 else 0) else 1
def putV (d : ByteArray) (n : Nat) (A S : Nat → Int) (size : Int) : ByteArray := if putE d.size n A S size = 0 then ⟨(rowP d.data.toList A S size.toNat n).toArray⟩ else ⟨#[]⟩
end Go.Proofs.YtnbcbipigiopbaaGreatDoor
/-
  A block of bytes of the call's own, told as a list.
-/
namespace Go.Proofs.YtnbcbipigiopbaaGreatDoor
open Go.RowKit

/-- Block b holds the bytes l, and none of them is frozen. -/
def BytesAt (w : World) (b : Nat) (l : List UInt8) : Prop :=
  (∀ j (h : j < l.length), w.cell? ⟨b, j, none⟩ = some (.int .u8 (l[j].toNat : Int))) ∧ ∀ j, j < l.length → w.frozen? ⟨b, j, none⟩ = false
theorem BytesAt.lt {w : World} {b : Nat} {l : List UInt8} (h : BytesAt w b l) (h0 : 0 < l.length) : b < w.heap.size := World.block_lt_of_cell? w _ (h.1 0 h0)
theorem BytesAt.cell {w : World} {b : Nat} {l : List UInt8} (h : BytesAt w b l) {j : Nat} {x : UInt8} (hj : l[j]? = some x) : w.cell? ⟨b, j, none⟩ = some (.int .u8 (x.toNat : Int)) := by
  obtain ⟨hl, rfl⟩ := List.getElem?_eq_some_iff.1 hj
  exact h.1 j hl
theorem BytesAt.ext {w w' : World} {b : Nat} {l : List UInt8} (h : BytesAt w b l) (hE : Ext w w') : BytesAt w' b l := by
  refine ⟨fun j hj => hE.cell (h.1 j hj), fun j hj => ?_⟩
  have hb : b < w.heap.size := World.block_lt_of_cell? w _ (h.1 j hj)
  rw [hE.frozens b j hb]
  exact h.2 j hj
theorem BytesAt.drewN {w : World} {b : Nat} {l : List UInt8} (h : BytesAt w b l) (n : Nat) : BytesAt (w.drewN n) b l := h.ext ((Ext.refl w).drewN n)
theorem BytesAt.set {w : World} {b : Nat} {l : List UInt8} (h : BytesAt w b l) (k : Nat) (hk : k < l.length) (x : UInt8) : BytesAt (w.setCell ⟨b, k, none⟩ (.int .u8 (x.toNat : Int))) b (l.set k x) := by
  refine ⟨fun j hj => ?_, fun j hj => by rw [World.frozen?_setCell]; exact h.2 j (by simpa using hj)⟩
  have hj' : j < l.length := by simpa using hj
  by_cases e : k = j
  · subst e
    rw [World.cell?_setCell_same' _ _ _ (by rw [h.1 k hk]; rfl)]
    simp
  · rw [World.cell?_setCell_other (h := fun he => e (by injection he)), h.1 j hj']
    simp [List.getElem_set_ne e]
theorem BytesAt.ofAlloc (w : World) (C : Array Value) (t : TypeId) (m : Nat) (l : List UInt8) (hm : l.length ≤ m) (hC : ∀ j (h : j < l.length), C[j]? = some (.int .u8 (l[j].toNat : Int))) : BytesAt (w.alloc (.cells C t (m, m + 1))) w.heap.size l := by
  refine ⟨fun j hj => ?_, fun j hj => ?_⟩
  · rw [World.cell?_alloc_mark w C t (m, m + 1) j]
    exact hC j hj
  · rw [World.frozen?_alloc_mark]
    simp
    omega
theorem BytesAt.ofAlloc0 (w : World) (C : Array Value) (t : TypeId) (l : List UInt8) (hC : ∀ j (h : j < l.length), C[j]? = some (.int .u8 (l[j].toNat : Int))) : BytesAt (w.alloc (.cells C t)) w.heap.size l := by
  refine ⟨fun j hj => ?_, fun j hj => by simp⟩
  rw [World.cell?_alloc_mark w C t (0, 0) j]
  exact hC j hj
theorem add_zero_off (b j : Nat) : Addr.add ⟨b, 0, none⟩ j = ⟨b, j, none⟩ := by
  simp only [Addr.add]
  split <;> simp_all
theorem BytesAt.conv {w : World} {b : Nat} {l : List UInt8} (h : BytesAt w b l) (n c : Nat) (hn : l.length = n) :
    (convert 98 9 (.slice (some ⟨b, 0, none⟩) n c)).run Tryz.prog w = .ok (.string ⟨l.toArray⟩) w := by
  subst hn
  refine run_convert_bytes_back (P := Tryz.prog) w 98 9 5 ⟨b, 0, none⟩ c l Tryz.underlying98 Tryz.underlying5 Tryz.underlying9 ?_
  intro j hj
  rw [add_zero_off]
  exact h.1 j hj
end Go.Proofs.YtnbcbipigiopbaaGreatDoor
/-
  hole.Put and the reference's MapPut: bytes put into their pieces.
-/
namespace Go.Proofs.YtnbcbipigiopbaaGreatDoor
open Go.RowKit Go.WideShapes

theorem infoU8p : (Tryz.prog.info? 5).map (·.size) = some 1 := by kernel_rfl

/-- 'copy(b[k:], s)' with s a text that fits, as one step of a region's list. -/
theorem wpList_copy_str {P : Program} {w : World} {ops : Array Oper} {rest : List Oper} {o : Oper} {a : Act} {Q : Exit → Act → World → Prop} (hgd : o.guard = none) (d x : Operand) (dT sT : TypeId)
    (ho : o.op = .call { callee := .builtin .copy, args := #[d, x], argTypes := #[dT, sT] }) (elem : TypeId) (hu : P.underlying dT = some (.slice elem)) (hsz : (P.info? elem).map (·.size) = some 1)
    (g off dLen dCap : Nat) (s : ByteArray) (cur : List Value) (t : TypeId) (hd : a.eval d = .slice (some ⟨g, off, none⟩) dLen dCap) (hx : a.eval x = .string s)
    (hg : w.heap[g]? = some (.cells cur.toArray t (0, 0))) (hle : s.size ≤ dLen) (hfit : off + s.size ≤ cur.length)
    (w0 : World) (B : Nat) (hB : Below B w0 w) (hBg : B ≤ g)
    (h : ∀ w', Hid (w'.heap[g]? = some (.cells (splice cur off (Lib.byteCells s.data.toList)).toArray t (0, 0))) → Below B w0 w' → Hid (w'.heap.size = w.heap.size) → Hid (∀ b o, b ≠ g → w'.cell? ⟨b, o, none⟩ = w.cell? ⟨b, o, none⟩) → wpList P ops Q rest (a.put o.dst (goInt s.size)) w') : wpList P ops Q (o :: rest) a w := by
  refine wpList_plain hgd fun K hK => ?_
  have hrun := Lib.run_copy_row_string (P := P) w dT sT o.type elem g off dLen dCap s cur.toArray t hu hsz hg hle (by simpa using hfit)
  have hl : (Lib.byteCells s.data.toList).length = s.size := by simp [Lib.byteCells]
  have e : (splice cur off (Lib.byteCells s.data.toList)).toArray = (List.take off cur.toArray.toList ++ Lib.byteCells s.data.toList ++ List.drop (off + s.size) cur.toArray.toList).toArray := by
    unfold splice
    rw [hl]
    simp
  unfold Oper.wp
  simp [execOp, ho, resolve, invoke, builtin, hd, hx, hrun, Result.andThen]
  refine hK _ _ (h _ (Lib.hid ?_) (below_setRow hB hBg _) (Lib.hid (by simp)) (Lib.hid fun b o hb => cell_setRow_other _ _ _ _ hb))
  rw [e]
  have := setRow_heap w g cur.toArray (List.take off cur.toArray.toList ++ Lib.byteCells s.data.toList ++ List.drop (off + s.size) cur.toArray.toList).toArray t (0, 0) hg
  simpa using this

/-- Reads, then one operation that writes: the region's law with the drawn world under its own name. -/
theorem wp_region_tail {P : Program} {id : Nat} {Q : Exit → Act → World → Prop} {a : Act} {w : World} {l : List Oper} (n : Nat) (hm : P.follows .mixedOrders = true) (hB : Region.lexTailB .any l.toArray n = true)
    (h : wpStill P l.toArray w.drew (fun a' => wpList P l.toArray Q (l.drop n) a' w.drew) (l.take n) a) : (Code.region id l.toArray true).wp P Q a w := wp_region_still_tail n hm hB h
/-- The bytes of a piece, and what is behind it. -/
theorem piece_take {t : ByteArray} {d : List UInt8} {a n : Nat} (h : t.data.toList = d.drop a) (hn : a + n ≤ d.length) : n ≤ t.size ∧ (t.extract 0 n).data.toList = (d.drop a).take n ∧ (t.extract 0 n).size = n ∧ (t.extract n t.size).data.toList = d.drop (a + n) := by
  have hs : t.size = d.length - a := by
    have := congrArg List.length h
    simp at this
    exact this
  refine ⟨by omega, ?_, by rw [ByteArray.size_extract]; omega, ?_⟩
  · rw [ByteArray.data_extract, Array.toList_extract, List.extract_eq_take_drop, h]
    simp
  · rw [ByteArray.data_extract, Array.toList_extract, List.extract_eq_take_drop, h, List.drop_drop]
    rw [List.take_of_length_le (by simp; omega)]

/-- Between two rounds of Put. -/
def PutRel (d : ByteArray) (n : Nat) (A S : Nat → Int) (z g : Nat) (w : World) (dv i : Value) (wr : World) : Prop :=
  ∃ (k : Nat) (t : ByteArray), k ≤ n ∧ dv = .string t ∧ i = .int .i64 (k : Int) ∧ t.size ≤ 600 ∧ Hid (t.data.toList = d.data.toList.drop (sN S k)) ∧
    Hid (wr.heap[g]? = some (.cells (Lib.byteCells (rowP d.data.toList A S z k)).toArray 5 (0, 0))) ∧ Ext w wr ∧ g < wr.heap.size
theorem byteCells_splice (L : List UInt8) (off : Nat) (cs : List UInt8) : splice (Lib.byteCells L) off (Lib.byteCells cs) = Lib.byteCells (splice L off cs) := by
  unfold splice Lib.byteCells
  simp [List.map_take, List.map_drop]
theorem byteCells_len (L : List UInt8) : (Lib.byteCells L).length = L.length := by simp [Lib.byteCells]
theorem zeros_made (z : Nat) : madeCells #[Value.int .u8 0] z = (Lib.byteCells (List.replicate z 0)).toArray := by
  apply Array.ext
  · simp [size_madeCells, Lib.byteCells]
  · intro i h1 h2
    simp [madeCells, Nat.mod_one, Lib.byteCells]
theorem infoU8q : (Tryz.prog.info? 5).map (fun i => (i.zero, i.size, i.bytes)) = some (some (.int .u8 0), 1, 1) := by kernel_rfl
theorem bytesAt_of {w : World} {g : Nat} {L : List UInt8} (h : w.heap[g]? = some (.cells (Lib.byteCells L).toArray 5 (0, 0))) : BytesAt w g L :=
  ⟨fun j hj => by simp [World.cell?, h, Lib.byteCells, hj], fun j _ => by simp [World.frozen?, h]⟩

end Go.Proofs.YtnbcbipigiopbaaGreatDoor
