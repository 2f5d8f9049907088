/-
  The reference's MapFind: its walk.
-/
import Derived.Test.YtedcibjnnihhfaaDoorFindW
namespace Go.Proofs.YtedcibjnnihhfaaDoor
open Go.RowKit Go.WideShapes

/-- A map and a number come back; nothing old has turned. -/
def GivesMapN (L : List (Int × Int)) (k : Int) (w : World) (e : Ending) (w' : World) : Prop := ∃ v, e = .returned (.tuple #[v, .int .i64 k]) ∧ IsMap w' v L ∧ Ext w w'

theorem block_at (n k b : Nat) (blk : Int) (hk : k < n) (h1 : 1 ≤ blk) (hb : (b : Int) = min blk (max n 1)) :
    (k : Int) / blk = ((k / b : Nat) : Int) ∧ ((k / b : Nat) : Int) * blk = ((k / b * b : Nat) : Int) ∧ k / b * b ≤ k ∧ k / b ≤ k ∧ ((k / b * b : Nat) : Int) + min blk ((n : Int) - ((k / b * b : Nat) : Int)) = ((min (k / b * b + b) n : Nat) : Int) := by
  have hb1 : 1 ≤ b := by omega
  have hle : k / b * b ≤ k := Nat.div_mul_le_self k b
  by_cases h : blk = (b : Int)
  · subst h
    refine ⟨by rw [← Int.natCast_ediv], by rw [← Int.natCast_mul], hle, Nat.div_le_self k b, ?_⟩
    omega
  · have h0 : k / b = 0 := Nat.div_eq_of_lt (by omega)
    have h2 : (k : Int) / blk = 0 := Int.ediv_eq_zero_of_lt (by omega) (by omega)
    rw [h2, h0]
    refine ⟨by simp, by simp, by omega, by omega, by simp; omega⟩

set_option maxHeartbeats 4000000 in
set_option maxRecDepth 100000 in
theorem mapFind_any (s : ByteArray) (blk : Int) (hs : s.size ≤ 600) (h1 : 1 ≤ blk) (h2 : blk ≤ 9223372036854775807) (b : Nat) (hb : (b : Int) = min blk (max s.size 1)) (w : World) :
    Calls Tryd.prog 20 #[.string s, .int .i64 blk] w (GivesMapN (mapR (findL (datAt s b) s.size)) (mapE (findL (datAt s b) s.size)) w) := by
  obtain ⟨i0, hi, hz0, hz1, hz2⟩ := info_parts infoPc
  have Hb := Lib.hid (fun k hk => block_at s.size k b blk hk h1 hb)
  have hst := Lib.hid (fun k => findL_succ (datAt s b) k)
  have hinv := Lib.hid (fun k => findL_inv (datAt s b) k)
  have hln := Lib.hid (fun k => findL_len (datAt s b) k)
  have hlz : Hid (lastD (datAt s b) 0 = false) := Lib.hid rfl
  have hls : Hid (∀ k, lastD (datAt s b) (k + 1) = datAt s b k) := Lib.hid fun _ => rfl
  have hda : Hid (∀ k, datAt s b k = !(trimZ (s.extract (k / b * b) (min (k / b * b + b) s.size))).toList.isEmpty) := Lib.hid fun _ => rfl
  clear hb
  go_enter Tryd.func20, Tryd.ntmps20
  go_wp2_with fail
  go_loopw [6, 7, 15] (fun v l i wr => ∃ k : Nat, k ≤ s.size ∧ i = .int .i64 (k : Int) ∧ l = .bool (lastD (datAt s b) k) ∧ wr.ownsRow w.heap.size 87 2 v (findL (datAt s b) k).length (cellsP (findL (datAt s b) k)) ∧ Ext w wr) (fun _ _ i _ => s.size - (intOf i).toNat)
  case atStart => exact ⟨0, by omega, rfl, by rw [hlz.out], World.ownsRow_nil _ _ _ _, Ext.refl _⟩
  case round =>
    obtain ⟨k, hk, rfl, rfl, hown, hE⟩ := hrel
    have hlen := hln.out k
    have hz1' := hE.size
    by_cases hlt : k < s.size
    · obtain ⟨c0, c1, c2, c4, c3⟩ := Hb.out k hlt
      have hd := hda.out k
      have hs1 := hst.out k
      have hs2 := hls.out k
      obtain ⟨q, hqe⟩ : ∃ q : Nat, k / b * b = q := ⟨_, rfl⟩
      rw [hqe] at c1 c2 c3 hd
      obtain ⟨d, hde⟩ : ∃ d : Nat, k / b = d := ⟨_, rfl⟩
      rw [hde] at c0 c1 c4
      obtain ⟨e, hee⟩ : ∃ e : Nat, min (q + b) s.size = e := ⟨_, rfl⟩
      rw [hee] at c3 hd
      have hel : e ≤ s.size := by omega
      have hw0 : wrap64 ((k : Int) / blk) = (d : Int) := by rw [c0]; unfold wrap64; omega
      have hw1 : wrap64 ((d : Int) * blk) = (q : Int) := by rw [c1]; unfold wrap64; omega
      have hxs : (s.extract q e).size ≤ 600 := by rw [ByteArray.size_extract]; omega
      have hqe2 : q ≤ e := by omega
      have C1 := Lib.hid (trim_any (s.extract q e) hxs wr)
      have C3 := Lib.hid c3
      have Hs1 := Lib.hid hs1
      have Hs2 := Lib.hid hs2
      have Hd := Lib.hid hd
      have hv := Lib.hid (hinv.out k)
      have Hown := Lib.hid hown
      clear c0 c1 c3 hs1 hs2 hd hqe hee hde hown hxs
      go_wp2_with fail
      rw [C3.out, Int.toNat_natCast]
      clear hw0 hw1
      generalize s.extract q e = x at *
      refine C1.out.mono ?_; rintro r w1 ⟨rfl, hx1⟩
      have hown1 := own_ext Hown.out hx1
      have HO := Lib.hid hown1
      have hE1 := hE.trans hx1
      have hz2' := hE1.size
      clear hown1 hE hx1 Hown
      cases hD : datAt s b k with
      | false =>
        have hem : (trimZ x).toList.isEmpty = true := by have := Hd.out; rw [hD] at this; simpa using this
        have HD := Lib.hid hD
        clear hD
        have Hn : Hid (w1.ownsRow w.heap.size 87 2 u6 (findL (datAt s b) (k + 1)).length (cellsP (findL (datAt s b) (k + 1)))) := Lib.hid (by rw [Hs1.out, HD.out]; exact HO.out)
        go_wp2_with fail
        go_roundw
        case rel => exact ⟨k + 1, hlt, by go_num, by rw [Hs2.out, HD.out], Hn.out, hE1⟩
        case measure => simp [intOf]; omega
      | true =>
        have hem : (trimZ x).toList.isEmpty = false := by have := Hd.out; rw [hD] at this; simpa using this
        have HD := Lib.hid hD
        clear hD
        cases hl : lastD (datAt s b) k with
        | true =>
          rcases hv.out with ⟨_, e1⟩ | ⟨l, a, z, e0, e1, _, e3, e4⟩
          · rw [e1] at hl; exact absurd hl (by simp)
          · have HL := Lib.hid hl
            clear hl
            rw [e0] at HO hlen Hs1
            rw [List.length_append] at HO
            obtain ⟨g, cap, rfl, hgb, hgl, hgc, hgm⟩ := own_ne HO.out
            have hwc1 := HO.out.cellAt (l.length * 2 + 1) (by omega)
            rw [cellsP_get1] at hwc1
            have hfz := HO.out.frozenAt (l.length * 2 + 1)
            rw [List.length_append, List.length_singleton] at hlen
            unfold maxLen at hgm
            have Hs := Lib.hid (HO.out.stored (l.length * 2 + 1) (.int .i64 (z + 1))).1
            have Hn : Hid ((w1.setCell ⟨g, l.length * 2 + 1, none⟩ (.int .i64 (z + 1))).ownsRow w.heap.size 87 2 (.slice (some ⟨g, 0, none⟩) (l.length + 1) cap) (findL (datAt s b) (k + 1)).length (cellsP (findL (datAt s b) (k + 1)))) := Lib.hid (by
              rw [Hs1.out, HD.out, HL.out, if_pos rfl, if_pos rfl, growL_snoc, ← cellsP_set l a z]; simpa using Hs.out)
            clear Hs HO
            go_wp2_with fail
            go_roundw
            case rel => exact ⟨k + 1, hlt, by go_num, by rw [Hs2.out, HD.out], Hn.out, hE1.setCell hgb _⟩
            case measure => simp [intOf]; omega
        | false =>
          have HL := Lib.hid hl
          clear hl
          generalize findL (datAt s b) k = L at *
          have hsl : ∃ oa cap, u6 = .slice oa L.length cap := by
            rcases HO.out.2 with ⟨h, h0⟩ | ⟨g, cap, cur, h, _⟩
            · exact ⟨_, _, by rw [h0]; exact h⟩
            · exact ⟨_, _, h⟩
          obtain ⟨oa, cap0, rfl⟩ := hsl
          go_wp2_with (at_builtin; refine wpList_append_own _ rfl _ _ 22 rfl (w.heap.size) 87 i0 (.agg #[.int .i64 0, .int .i64 0]) 2 16 Tryd.underlying22 hi hz0 hz1 hz2 rfl (by decide) _ _ _ rfl (HO.out.alloc _) ⟨w1.heap.size, 0, none⟩ 1 1 [.int .i64 (k : Int), .int .i64 0] rfl rfl ?c1 ?c2 ?c3 ?c4 ?c5 ?_)
          case c1 =>
            intro j u hj
            match j, hj with
            | 0, hj => simp at hj; subst hj; simp [Addr.add]
            | 1, hj => simp at hj; subst hj; simp [Addr.add]
          case c2 => intro u hu; simp at hu; rcases hu with rfl | rfl <;> rfl
          case c3 => unfold maxLen; omega
          case c4 => omega
          case c5 => simp; omega
          intro v' w3 hown3 hgrow _
          have hE3 : Ext w w3 := (hE1.alloc _).ofGrown hgrow (fun j hj => own_ge HO.out (Nat.le_refl _) j hj)
          have e5 : cellsP L ++ [.int .i64 (k : Int), .int .i64 0] = cellsP (L ++ [((k : Int), 0)]) := by rw [cellsP_append]; rfl
          rw [e5] at hown3
          obtain ⟨g, cap, rfl, hgb, hgl, hgc, hgm⟩ := own_ne hown3
          have hwc1 := hown3.cellAt (L.length * 2 + 1) (by omega)
          rw [cellsP_get1] at hwc1
          have hfz := hown3.frozenAt (L.length * 2 + 1)
          unfold maxLen at hgm
          have Hs := Lib.hid (hown3.stored (L.length * 2 + 1) (.int .i64 1)).1
          have Hn : Hid ((w3.setCell ⟨g, L.length * 2 + 1, none⟩ (.int .i64 1)).ownsRow w.heap.size 87 2 (.slice (some ⟨g, 0, none⟩) (L.length + 1) cap) (findL (datAt s b) (k + 1)).length (cellsP (findL (datAt s b) (k + 1)))) := Lib.hid (by
            rw [Hs1.out, HD.out, HL.out, if_pos rfl, if_neg (by decide), ← cellsP_set L k 0]; simpa using Hs.out)
          clear hown3 hgrow HO Hs
          go_wp2_with fail
          go_roundw
          case rel => exact ⟨k + 1, hlt, by go_num, by rw [Hs2.out, HD.out], Hn.out, hE3.setCell hgb _⟩
          case measure => simp [intOf]; omega
    · obtain rfl : k = s.size := by omega
      have HR := Lib.hid (IsMap.ofOwns hown)
      have hsl : ∃ oa cap, u6 = .slice oa (findL (datAt s b) s.size).length cap := by
        rcases HR.out with ⟨⟨a, c, h⟩, h0⟩ | ⟨b, off, cap, h, _⟩
        · exact ⟨_, _, by rw [h0]; exact h⟩
        · exact ⟨_, _, h⟩
      clear hown
      obtain ⟨oa, cap, rfl⟩ := hsl
      generalize findL (datAt s b) s.size = L at *
      cases hq : decide (20 < (L.length : Int)) with
      | true =>
        have hq2 : 20 < (L.length : Int) := of_decide_eq_true hq
        have e1 : Hid (mapR L = []) := Lib.hid (by unfold mapR; rw [if_pos (by omega)])
        have e2 : Hid (mapE L = 4) := Lib.hid (by unfold mapE; rw [if_pos (by omega)])
        go_wp2_with fail
        go_ret2
        exact ⟨_, ret_val (by rw [e2.out]; rfl), by rw [e1.out]; exact .inl ⟨⟨_, _, rfl⟩, rfl⟩, hE⟩
      | false =>
        have hq2 : ¬ 20 < (L.length : Int) := of_decide_eq_false hq
        have e1 : Hid (mapR L = L) := Lib.hid (by unfold mapR; rw [if_neg (by omega)])
        have e2 : Hid (mapE L = 0) := Lib.hid (by unfold mapE; rw [if_neg (by omega)])
        go_wp2_with fail
        go_ret2
        exact ⟨_, ret_val (by rw [e2.out]; rfl), by rw [e1.out]; exact HR.out, hE⟩

theorem mapFind_small (s : ByteArray) (blk : Int) (h1 : blk < 1) (w : World) :
    Calls Tryd.prog 20 #[.string s, .int .i64 blk] w fun e w' => e = .returned (.tuple #[.slice none 0 0, .int .i64 1]) ∧ Ext w w' := by
  go_enter Tryd.func20, Tryd.ntmps20
  go_wp2_with fail
  go_ret2
  exact ⟨rfl, (by show Below _ _ _; repeat' (first | (with_reducible exact Below.refl _ _) | (with_reducible assumption) | (with_reducible refine belowDrewN ?_ _) | (with_reducible refine Below.alloc ?_ ?_ _) | (with_reducible refine Below.drew ?_) | (with_reducible refine Below.setCell ?_ ?_ _) | go_size))⟩
end Go.Proofs.YtedcibjnnihhfaaDoor
