/-
  Slices of texts as lists; sameTexts.
-/
import Derived.Test.YtiiaoagobjgkiaaGreatDoorNum
import Derived.Test.YtiiaoagobjgkiaaGreatDoorRead
import Derived.Laws.AppendOwn
namespace Go.Proofs.YtiiaoagobjgkiaaGreatDoor
open Go.RowKit Go.WideShapes

/-- The slice value v holds the texts l. -/
def IsStrs (w : World) (v : Value) (l : List ByteArray) : Prop :=
  ((∃ a c, v = .slice a 0 c) ∧ l = []) ∨ ∃ (b off cap : Nat), v = .slice (some ⟨b, off, none⟩) l.length cap ∧ l.length ≤ cap ∧ cap ≤ maxLen ∧ ∀ k (h : k < l.length), w.cell? ⟨b, off + k, none⟩ = some (.string l[k])

theorem IsStrs.ext {w w' : World} {v : Value} {l : List ByteArray} (h : IsStrs w v l) (hE : Ext w w') : IsStrs w' v l :=
  h.imp id fun ⟨b, off, cap, hv, hn, hm, hc⟩ => ⟨b, off, cap, hv, hn, hm, fun k hk => hE.cell (hc k hk)⟩

/-- The slice, whether it is nil or not. -/
theorem IsStrs.open {w : World} {v : Value} {l : List ByteArray} (h : IsStrs w v l) : ∃ (oa : Option Addr) (cap : Nat), v = .slice oa l.length cap ∧ l.length ≤ maxLen ∧ ∀ k (h : k < l.length), ∃ b off, oa = some ⟨b, off, none⟩ ∧ w.cell? ⟨b, off + k, none⟩ = some (.string l[k]) := by
  rcases h with ⟨⟨a, c, rfl⟩, rfl⟩ | ⟨b, off, cap, rfl, hn, hm, hc⟩
  · exact ⟨a, c, rfl, by simp [maxLen], fun k h => by simp at h⟩
  · exact ⟨some ⟨b, off, none⟩, cap, rfl, by omega, fun k h => ⟨b, off, rfl, hc k h⟩⟩

/-- Without its first text. -/
theorem IsStrs.tail {w : World} {b off cap : Nat} {l : List ByteArray} (h : IsStrs w (.slice (some ⟨b, off, none⟩) l.length cap) l) (hne : 0 < l.length) :
    l.length ≤ cap ∧ ∃ A : Nat, (if cap = 1 then some (⟨b, off, none⟩ : Addr) else some ⟨b, off + 1, none⟩) = some ⟨b, A, none⟩ ∧ IsStrs w (.slice (some ⟨b, A, none⟩) (l.length - 1) (cap - 1)) l.tail := by
  rcases h with ⟨⟨_, _, e⟩, rfl⟩ | ⟨_, _, _, e, hn, hm, hc⟩
  · simp at hne
  · cases e
    refine ⟨hn, ?_⟩
    by_cases hcp : cap = 1
    · refine ⟨off, if_pos hcp, .inl ⟨⟨some ⟨b, off, none⟩, cap - 1, ?_⟩, ?_⟩⟩
      · congr 1; omega
      · rw [← List.length_eq_zero_iff]; simp; omega
    · refine ⟨off + 1, if_neg hcp, .inr ⟨b, off + 1, cap - 1, by simp, by simp; omega, by omega, fun k hk => ?_⟩⟩
      have hk' : k + 1 < l.length := by simp at hk; omega
      have := hc (k + 1) hk'
      rw [List.getElem_tail, ← this]
      congr 2
      omega

theorem IsStrs.ofOwns {w : World} {base : Nat} {v : Value} {l : List ByteArray} (h : w.ownsRow base 9 1 v l.length (l.map Value.string)) : IsStrs w v l := by
  obtain ⟨_, ⟨hv, hn⟩ | ⟨g, cap, cur, hv, hb, hh, hn, hm, hs, ht⟩⟩ := h
  · exact .inl ⟨⟨none, 0, hv⟩, by simpa using hn⟩
  · refine .inr ⟨g, 0, cap, hv, hn, hm, fun k hk => ?_⟩
    have h1 : cur.toList[k]? = some (.string l[k]) := by
      have : (cur.toList.take (l.length * 1))[k]? = (l.map Value.string)[k]? := by rw [ht]
      rw [List.getElem?_take, if_pos (by omega)] at this
      rw [this]; simp [hk]
    simp only [World.cell?, hh, Nat.zero_add]
    simpa using h1

set_option maxHeartbeats 1600000 in
set_option maxRecDepth 100000 in
theorem sameTexts_any (w : World) (u v : Value) (l : List ByteArray) (h1 : IsStrs w u l) (h2 : IsStrs w v l) :
    Calls Tryz.prog 22 #[u, v] w fun x w' => x = .returned (.bool true) ∧ Ext w w' := by
  rcases h1 with ⟨⟨a, c, rfl⟩, rfl⟩ | ⟨b, off, cap, rfl, hn, hm, hc⟩
  · rcases h2 with ⟨⟨a', c', rfl⟩, _⟩ | ⟨b', off', cap', rfl, hn', hm', hc'⟩
    all_goals
      go_enter Tryz.func22, Tryz.ntmps22
      go_wp2_with fail
      refine wp_loop_rounds 1 ?_
      rw [rounds_succ]
      go_wp2_with fail
      go_ret
      exact ⟨rfl, (by show Below _ _ _; repeat' (first | (with_reducible exact Below.refl _ _) | (with_reducible assumption) | (with_reducible refine belowDrewN ?_ _) | (with_reducible refine Below.alloc ?_ ?_ _) | (with_reducible refine Below.drew ?_) | (with_reducible refine Below.setCell ?_ ?_ _) | go_size))⟩
  · rcases h2 with ⟨⟨a', c', rfl⟩, rfl⟩ | ⟨b', off', cap', rfl, hn', hm', hc'⟩
    · go_enter Tryz.func22, Tryz.ntmps22
      go_wp2_with fail
      refine wp_loop_rounds 1 ?_
      rw [rounds_succ]
      go_wp2_with fail
      go_ret
      exact ⟨rfl, (by show Below _ _ _; repeat' (first | (with_reducible exact Below.refl _ _) | (with_reducible assumption) | (with_reducible refine belowDrewN ?_ _) | (with_reducible refine Below.alloc ?_ ?_ _) | (with_reducible refine Below.drew ?_) | (with_reducible refine Below.setCell ?_ ?_ _) | go_size))⟩
    · have hml : l.length ≤ 9223372036854775807 := by unfold maxLen at hm; omega
      have Hc := Lib.hid hc
      have Hc' := Lib.hid hc'
      clear hc hc'
      go_enter Tryz.func22, Tryz.ntmps22
      go_wp2_with fail
      go_loopw [5] (fun i wr => ∃ k : Nat, k ≤ l.length ∧ i = .int .i64 (k : Int) ∧ Ext w wr) (fun i _ => l.length - (intOf i).toNat)
      case atStart => exact ⟨0, by omega, rfl, Ext.refl _⟩
      case round =>
        obtain ⟨k, hk, rfl, hE⟩ := hrel
        by_cases hlt : k < l.length
        · have g1 := hE.cell (Hc.out k hlt)
          have g2 := hE.cell (Hc'.out k hlt)
          have lb : b < wr.heap.size := World.block_lt_of_cell? wr _ g1
          have lb' : b' < wr.heap.size := World.block_lt_of_cell? wr _ g2
          generalize l[k] = s at g1 g2
          go_wp2_with fail
          refine wp_region_det (Stood _) (by kernel_rfl) (by kernel_rfl) (Stood.start _) ?_
          repeat (first
            | (refine det_skip (by rfl) ?_; simp only [Act.put, List.setIfInBounds_toArray, List.set_cons_zero, List.set_cons_succ])
            | (refine det_op (v := ?_) rfl (by rfl) (fun w' hS => ?_) ?_; rotate_left; (focus (obtain ⟨hcl, hxt⟩ := hS; go_wp2_with (fail); (first | refine ⟨?_, rfl, hcl, hxt⟩ | refine ⟨?_, rfl, Stood.of (hxt.trans (by assumption))⟩); (first | (simp only [List.getElem?_toArray, List.getElem?_cons_succ, List.getElem?_cons_zero]; rfl) | rfl))); simp only [Act.put, List.setIfInBounds_toArray, List.set_cons_zero, List.set_cons_succ]))
          refine det_end ?_
          intro w1 hS
          have hx := hS.2
          clear hS
          go_wp2_with fail
          go_roundw
          case rel => exact ⟨k + 1, hlt, by go_num, hE.trans hx⟩
          case measure => simp [intOf]; omega
        · obtain rfl : k = l.length := by omega
          go_wp2_with fail
          go_ret
          exact ⟨rfl, hE⟩
end Go.Proofs.YtiiaoagobjgkiaaGreatDoor
