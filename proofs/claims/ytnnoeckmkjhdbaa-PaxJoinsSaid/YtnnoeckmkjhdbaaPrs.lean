/-
  Slices of pairs as lists of pairs; the law's samePairs. No conditions but a bound of the lists' length.
-/
import Derived.Test.YtnnoeckmkjhdbaaPairArg
import Derived.ChangeKeysEq
import Derived.Laws.AppendOwn
import Derived.Laws.OwnMore
namespace Go.Proofs.Ytnnoeckmkjhdbaa
open Go.ChangeShapes Go.WideShapes Go.ChangeAt Go.RowKit Go.Joins

def cellsB : List (ByteArray × ByteArray) → List Value
  | [] => []
  | (k, v) :: t => .string k :: .string v :: cellsB t
theorem cellsB_append (a b : List (ByteArray × ByteArray)) : cellsB (a ++ b) = cellsB a ++ cellsB b := by
  induction a with
  | nil => rfl
  | cons x t ih => obtain ⟨k, v⟩ := x; simp [cellsB, ih]
theorem cellsB_len (L : List (ByteArray × ByteArray)) : (cellsB L).length = L.length * 2 := by
  induction L with
  | nil => rfl
  | cons x t ih => obtain ⟨k, v⟩ := x; simp [cellsB, ih]; omega
theorem cellsB_at : ∀ (L : List (ByteArray × ByteArray)) (k : Nat) (h : k < L.length), (cellsB L)[k * 2]? = some (.string L[k].1) ∧ (cellsB L)[k * 2 + 1]? = some (.string L[k].2)
  | (a, b) :: t, 0, _ => ⟨rfl, rfl⟩
  | (a, b) :: t, k + 1, h => by
    have ih := cellsB_at t k (by simpa using h)
    have e1 : (k + 1) * 2 = k * 2 + 1 + 1 := by omega
    rw [e1]
    exact ⟨ih.1, ih.2⟩

/-- The slice value v holds the pairs L. -/
def IsPrs (w : World) (v : Value) (L : List (ByteArray × ByteArray)) : Prop :=
  ((∃ a c, v = .slice a 0 c) ∧ L = []) ∨ ∃ (b off cap : Nat), v = .slice (some ⟨b, off, none⟩) L.length cap ∧
    ∀ k (h : k < L.length), w.cell? ⟨b, off + k * 2, none⟩ = some (.string L[k].1) ∧ w.cell? ⟨b, off + k * 2 + 1, none⟩ = some (.string L[k].2)
theorem IsPrs.ext {w w' : World} {v : Value} {L : List (ByteArray × ByteArray)} (h : IsPrs w v L) (hE : Ext w w') : IsPrs w' v L :=
  h.imp id fun ⟨b, off, cap, hv, hc⟩ => ⟨b, off, cap, hv, fun k hk => ⟨hE.cell (hc k hk).1, hE.cell (hc k hk).2⟩⟩
theorem infoPair : (Try.prog.info? 28).map (fun i => (i.zero, i.size, i.bytes)) = some (some (.agg #[.string ByteArray.empty, .string ByteArray.empty]), 2, 32) := by kernel_rfl
theorem ownP_ne {w : World} {base : Nat} {e : TypeId} {size : Nat} {v : Value} {n : Nat} {xs : List Value} (h : w.ownsRow base e size v (n + 1) xs) : ∃ g cap, v = .slice (some ⟨g, 0, none⟩) (n + 1) cap ∧ base ≤ g ∧ n + 1 ≤ cap ∧ cap ≤ maxLen := by
  obtain ⟨_, ⟨_, h0⟩ | ⟨g, cap, cur, hv, hb, hh, hn, hm, hs, ht⟩⟩ := h
  · omega
  · exact ⟨g, cap, hv, hb, hn, hm⟩
theorem ownP_open {w : World} {base : Nat} {e : TypeId} {size : Nat} {v : Value} {n : Nat} {xs : List Value} (h : w.ownsRow base e size v n xs) : ∃ oa cap, v = .slice oa n cap := by
  obtain ⟨_, ⟨hv, h0⟩ | ⟨g, cap, cur, hv, hb, hh, hn, hm, hs, ht⟩⟩ := h
  · subst h0; exact ⟨_, _, hv⟩
  · exact ⟨_, _, hv⟩
theorem ownP_ext {w w' : World} {base : Nat} {t : TypeId} {sz : Nat} {v : Value} {n : Nat} {xs : List Value} (h : w.ownsRow base t sz v n xs) (hE : Ext w w') : w'.ownsRow base t sz v n xs :=
  h.kept (row := none) ⟨hE.os, hE.tape, hE.output, hE.size, fun b hb _ => hE.block b hb⟩ (by cases v.ownBlock <;> simp)
theorem ownP_ge {w : World} {base : Nat} {t : TypeId} {sz : Nat} {v : Value} {n : Nat} {xs : List Value} (h : w.ownsRow base t sz v n xs) {B : Nat} (hB : B ≤ base) : ∀ k, v.ownBlock = some k → B ≤ k := fun k hk => Nat.le_trans hB (World.ownsRow.lt h k hk).1
theorem IsPrs.ofOwns {w : World} {base : Nat} {v : Value} {L : List (ByteArray × ByteArray)} (h : w.ownsRow base 28 2 v L.length (cellsB L)) : IsPrs w v L := by
  obtain ⟨_, ⟨hv, hn⟩ | ⟨g, cap, cur, hv, hb, hh, hn, hm, hs, ht⟩⟩ := h
  · exact .inl ⟨⟨none, 0, hv⟩, by simpa using hn⟩
  · have ho : w.ownsRow base 28 2 (.slice (some ⟨g, 0, none⟩) L.length cap) L.length (cellsB L) := ⟨cellsB_len L, .inr ⟨g, cap, cur, rfl, hb, hh, hn, hm, hs, ht⟩⟩
    refine .inr ⟨g, 0, cap, hv, fun k hk => ?_⟩
    have := cellsB_at L k hk
    rw [Nat.zero_add, ho.cellAt _ (by omega), ho.cellAt _ (by omega)]
    exact this
/-- '==' on pairs that are alike. -/
theorem eqlPrd (d : Nat) (a b : ByteArray) (w : World) (e : ∀ x : ByteArray, (Op.equalIn d 9 (.string x) (.string x)).run Try.prog w = .ok true w) : (Op.equalIn (d + 1) 28 (.agg #[.string a, .string b]) (.agg #[.string a, .string b])).run Try.prog w = .ok true w := by
  simp only [Op.equalIn, Sem.run_bind, run_underlying Try.underlying28, Result.andThen_ok]
  simp [part, isAgg, run_underlying Try.underlying9, e]
theorem eqlPr (a b : ByteArray) (w : World) : (Op.equalIn 10000 28 (.agg #[.string a, .string b]) (.agg #[.string a, .string b])).run Try.prog w = .ok true w :=
  eqlPrd 9999 a b w fun x => by
    rw [show (9999 : Nat) = 9998 + 1 from rfl, run_equalIn_string w 9998 _ _ _ Try.underlying9]; simp
theorem samePairs_any (w : World) (v u : Value) (L : List (ByteArray × ByteArray)) (hl : L.length ≤ 4000000000) (h : IsPrs w v L) (h' : IsPrs w u L) : Calls Try.prog 5 #[v, u] w fun x w' => x = .returned (.bool true) ∧ Ext w w' := by
  have hsl : ∀ v, IsPrs w v L → ∃ oa cap, v = .slice oa L.length cap ∧ ∀ k (h : k < L.length), ∃ b off, oa = some ⟨b, off, none⟩ ∧ w.cell? ⟨b, off + k * 2, none⟩ = some (.string L[k].1) ∧ w.cell? ⟨b, off + k * 2 + 1, none⟩ = some (.string L[k].2) := fun v h => by
    rcases h with ⟨⟨a, c, rfl⟩, rfl⟩ | ⟨b, off, cap, rfl, hc⟩
    · exact ⟨_, _, rfl, fun k h => absurd h (by simp)⟩
    · exact ⟨_, _, rfl, fun k h => ⟨b, off, rfl, (hc k h).1, (hc k h).2⟩⟩
  obtain ⟨oa, cap, rfl, hc⟩ := hsl v h
  obtain ⟨ob, cap', rfl, hc'⟩ := hsl u h'
  have K2 := Lib.hid hc
  have K3 := Lib.hid hc'
  clear h h' hc hc' hsl
  go_enter Try.func5, Try.ntmps5
  go_wp2_with fail
  go_loopw [5] (fun i wr => ∃ k : Nat, k ≤ L.length ∧ i = .int .i64 (k : Int) ∧ Ext w wr) (fun i _ => L.length - (intOf i).toNat)
  case atStart => exact ⟨0, by omega, rfl, Ext.refl _⟩
  case round =>
    obtain ⟨k, hk, rfl, hE⟩ := hrel
    by_cases hlt : k < L.length
    · obtain ⟨b2, o2, rfl, q2, r2⟩ := K2.out k hlt
      obtain ⟨b3, o3, rfl, q3, r3⟩ := K3.out k hlt
      have g2 := hE.cell q2
      have g3 := hE.cell q3
      have j2 := hE.cell r2
      have j3 := hE.cell r3
      have lb : b2 < wr.heap.size := World.block_lt_of_cell? wr _ g2
      have lb' : b3 < wr.heap.size := World.block_lt_of_cell? wr _ g3
      have Q : ∀ W, _ := eqlPr L[k].1 L[k].2
      generalize L[k].1 = x at *
      generalize L[k].2 = y at *
      clear q2 q3 r2 r3
      go_wp2_with fail
      refine wp_region_det (Stood _) (by kernel_rfl) (by kernel_rfl) (Stood.start _) ?_
      repeat (first
        | (refine det_skip (by rfl) ?_; simp only [Act.put, List.setIfInBounds_toArray, List.set_cons_zero, List.set_cons_succ])
        | (refine det_op (v := ?_) rfl (by rfl) (fun w' hS => ?_) ?_; rotate_left; (focus (obtain ⟨hcl, hxt⟩ := hS; go_wp2_with (fail); (first | refine ⟨?_, rfl, hcl, hxt⟩ | refine ⟨?_, rfl, Stood.of (hxt.trans (by assumption))⟩); (first | (simp only [List.getElem?_toArray, List.getElem?_cons_succ, List.getElem?_cons_zero]; rfl) | rfl))); simp only [Act.put, List.setIfInBounds_toArray, List.set_cons_zero, List.set_cons_succ]))
      refine det_end ?_
      intro w4 hS
      have hx := hS.2
      clear hS
      go_wp2_with fail
      go_roundw
      case rel => exact ⟨k + 1, hlt, by go_num, hE.trans hx⟩
      case measure => simp [intOf]; omega
    · obtain rfl : k = L.length := by omega
      go_wp2_with fail
      go_ret
      exact ⟨rfl, hE⟩
end Go.Proofs.Ytnnoeckmkjhdbaa
