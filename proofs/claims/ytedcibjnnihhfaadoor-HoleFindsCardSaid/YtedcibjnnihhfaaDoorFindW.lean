/-
  hole.Find: its walk.
-/
import Derived.Test.YtedcibjnnihhfaaDoorFindV
import Derived.Test.YtedcibjnnihhfaaDoorHole
import Derived.Test.YtedcibjnnihhfaaDoorBare
import Derived.Test.YtedcibjnnihhfaaDoorDet
import Derived.Test.YtedcibjnnihhfaaDoorShelf
import Derived.Laws.OwnMore
namespace Go.Proofs.YtedcibjnnihhfaaDoor
open Go.RowKit Go.WideShapes

def cellsP (L : List (Int × Int)) : List Value := L.flatMap fun x => [.int .i64 x.1, .int .i64 x.2]
theorem cellsP_append (L M : List (Int × Int)) : cellsP (L ++ M) = cellsP L ++ cellsP M := by unfold cellsP; rw [List.flatMap_append]
theorem cellsP_len : ∀ L : List (Int × Int), (cellsP L).length = L.length * 2
  | [] => rfl
  | x :: L => by
    have := cellsP_len L
    unfold cellsP at this ⊢
    rw [List.flatMap_cons, List.length_append, this, List.length_cons]
    simp; omega
theorem cellsP_set (l : List (Int × Int)) (a s s' : Int) : (cellsP (l ++ [(a, s)])).set (l.length * 2 + 1) (.int .i64 s') = cellsP (l ++ [(a, s')]) := by
  rw [cellsP_append, cellsP_append, List.set_append_right _ _ (by rw [cellsP_len]; omega), cellsP_len]
  rw [show l.length * 2 + 1 - l.length * 2 = 1 by omega]
  rfl
theorem cellsP_get0 (l : List (Int × Int)) (a s : Int) : (cellsP (l ++ [(a, s)]))[l.length * 2]? = some (.int .i64 a) := by
  rw [cellsP_append, List.getElem?_append_right (by rw [cellsP_len]; omega), cellsP_len, Nat.sub_self]
  rfl
theorem cellsP_get1 (l : List (Int × Int)) (a s : Int) : (cellsP (l ++ [(a, s)]))[l.length * 2 + 1]? = some (.int .i64 s) := by
  rw [cellsP_append, List.getElem?_append_right (by rw [cellsP_len]; omega), cellsP_len]
  rw [show l.length * 2 + 1 - l.length * 2 = 1 by omega]
  rfl

/-- A text without the zero bytes at its ends. -/
def trimZ (x : ByteArray) : ByteArray := ⟨(Lib.trimB x.data.toList 0).toArray⟩
/-- Has the text data? -/
def datB (x : ByteArray) : Bool := !(trimZ x).toList.isEmpty
/-- Has the block of byte i data? -/
def datAt (s : ByteArray) (b i : Nat) : Bool := datB (s.extract (i / b * b) (min (i / b * b + b) s.size))

theorem infoPc : (Tryd.prog.info? 87).map (fun i => (i.zero, i.size, i.bytes)) = some (some (.agg #[.int .i64 0, .int .i64 0]), 2, 16) := by kernel_rfl

theorem trim_any (x : ByteArray) (hx : x.size ≤ 600) (w : World) : Calls Tryd.prog 54 #[.string x, .string ⟨#[0]⟩] w fun e w' => e = .returned (.string (trimZ x)) ∧ Ext w w' :=
  (Tryd.strings_Trim_one x 0 (by decide) w (by omega)).mono fun e w' h => ⟨h.1, by rcases h.2 with rfl | rfl; exact Ext.refl _; exact (Ext.refl w).drew⟩

theorem own_ne {w : World} {base : Nat} {e : TypeId} {size : Nat} {v : Value} {n : Nat} {xs : List Value} (h : w.ownsRow base e size v (n + 1) xs) : ∃ g cap, v = .slice (some ⟨g, 0, none⟩) (n + 1) cap ∧ base ≤ g ∧ g < w.heap.size ∧ n + 1 ≤ cap ∧ cap ≤ maxLen := by
  rcases h.2 with ⟨_, h⟩ | ⟨g, cap, cur, hv, hb, hh, hn, hm, _⟩
  · omega
  · exact ⟨g, cap, hv, hb, (Array.getElem?_eq_some_iff.1 hh).1, hn, hm⟩

theorem own_zero {w : World} {base : Nat} {e : TypeId} {size : Nat} {v : Value} {xs : List Value} (h : w.ownsRow base e size v 0 xs) : ∃ oa cap, v = .slice oa 0 cap := by
  rcases h.2 with ⟨h, _⟩ | ⟨g, cap, cur, hv, _⟩
  · exact ⟨_, _, h⟩
  · exact ⟨_, _, hv⟩
theorem own_ext {w w' : World} {base : Nat} {t : TypeId} {sz : Nat} {v : Value} {n : Nat} {xs : List Value} (h : w.ownsRow base t sz v n xs) (hE : Ext w w') : w'.ownsRow base t sz v n xs :=
  h.kept (row := none) ⟨hE.os, hE.tape, hE.output, hE.size, fun b hb _ => hE.block b hb⟩ (by cases v.ownBlock <;> simp)
theorem own_ge {w : World} {base : Nat} {t : TypeId} {sz : Nat} {v : Value} {n : Nat} {xs : List Value} (h : w.ownsRow base t sz v n xs) {B : Nat} (hB : B ≤ base) : ∀ k, v.ownBlock = some k → B ≤ k := fun k hk => Nat.le_trans hB (World.ownsRow.lt h k hk).1

/-- The pieces of the first k blocks. -/
def findB (s : ByteArray) (b k : Nat) : List (Int × Int) := findL (datAt s b) (min (k * b) s.size)

theorem findB_len (s : ByteArray) (b k : Nat) : (findB s b k).length ≤ s.size := Nat.le_trans (findL_len _ _) (Nat.min_le_right _ _)
theorem find_step (s : ByteArray) (b k : Nat) (hb : 1 ≤ b) (hp : k * b < s.size) :
    ∃ m : Nat, min (k * b + b) s.size = k * b + (m + 1) ∧ (datB (s.extract (k * b) (k * b + (m + 1))) = false → findB s b (k + 1) = findB s b k) ∧
      (datB (s.extract (k * b) (k * b + (m + 1))) = true → (findB s b k = [] ∧ findB s b (k + 1) = [(((k * b : Nat) : Int), (m : Int) + 1)]) ∨
        ∃ (l : List (Int × Int)) (a z : Int), findB s b k = l ++ [(a, z)] ∧ 0 ≤ a ∧ 1 ≤ z ∧ a + z ≤ ((k * b : Nat) : Int) ∧
          ((a + z = ((k * b : Nat) : Int) ∧ findB s b (k + 1) = l ++ [(a, z + ((m : Int) + 1))]) ∨ (¬ a + z = ((k * b : Nat) : Int) ∧ findB s b (k + 1) = (l ++ [(a, z)]) ++ [(((k * b : Nat) : Int), (m : Int) + 1)]))) := by
  obtain ⟨m, hm⟩ : ∃ m, min (k * b + b) s.size = k * b + (m + 1) := ⟨min (k * b + b) s.size - k * b - 1, by omega⟩
  have h0 : findB s b k = findL (datAt s b) (k * b) := by unfold findB; rw [Nat.min_eq_left (by omega)]
  have h1 : findB s b (k + 1) = findL (datAt s b) (k * b + (m + 1)) := by unfold findB; rw [Nat.succ_mul, hm]
  have hd : ∀ j, j < m + 1 → datAt s b (k * b + j) = datB (s.extract (k * b) (k * b + (m + 1))) := fun j hj => by
    have hq : (k * b + j) / b = k := by rw [Nat.add_comm, Nat.add_mul_div_right _ _ (by omega), Nat.div_eq_of_lt (by omega), Nat.zero_add]
    unfold datAt
    rw [hq, hm]
  refine ⟨m, hm, fun h => ?_, fun h => ?_⟩
  · rw [h0, h1, findL_none _ _ _ fun j hj => by rw [hd j hj, h]]
  · rw [h0, h1, findL_some _ _ _ fun j hj => by rw [hd j hj, h]]
    rcases findL_inv (datAt s b) (k * b) with ⟨e1, e2⟩ | ⟨l, a, z, e1, e2, e3, e4, e5⟩
    · left; rw [e1, e2]; exact ⟨rfl, by simp⟩
    · right
      refine ⟨l, a, z, e1, e4, e5, e2, ?_⟩
      cases hl : lastD (datAt s b) (k * b) with
      | true => left; refine ⟨e3.2 hl, ?_⟩; rw [e1, if_pos rfl, growL_snoc]
      | false => right; refine ⟨fun h => by rw [e3.1 h] at hl; simp at hl, ?_⟩; rw [e1]; simp

/-- The slice value v holds the pieces L. -/
def IsMap (w : World) (v : Value) (L : List (Int × Int)) : Prop :=
  ((∃ a c, v = .slice a 0 c) ∧ L = []) ∨ ∃ (b off cap : Nat), v = .slice (some ⟨b, off, none⟩) L.length cap ∧
    ∀ k (h : k < L.length), w.cell? ⟨b, off + k * 2, none⟩ = some (.int .i64 L[k].1) ∧ w.cell? ⟨b, off + k * 2 + 1, none⟩ = some (.int .i64 L[k].2)
theorem IsMap.ext {w w' : World} {v : Value} {L : List (Int × Int)} (h : IsMap w v L) (hE : Ext w w') : IsMap w' v L :=
  h.imp id fun ⟨b, off, cap, hv, hc⟩ => ⟨b, off, cap, hv, fun k hk => ⟨hE.cell (hc k hk).1, hE.cell (hc k hk).2⟩⟩
theorem cellsP_at (L : List (Int × Int)) : ∀ k (h : k < L.length), (cellsP L)[k * 2]? = some (.int .i64 L[k].1) ∧ (cellsP L)[k * 2 + 1]? = some (.int .i64 L[k].2) := fun k h => by
  have e : L = L.take k ++ [(L[k].1, L[k].2)] ++ L.drop (k + 1) := by
    rw [List.append_assoc, List.singleton_append, show (L[k].1, L[k].2) = L[k] from rfl, List.getElem_cons_drop, List.take_append_drop]
  have hk : (L.take k).length = k := by rw [List.length_take]; omega
  have h0 := cellsP_get0 (L.take k) L[k].1 L[k].2
  have h1 := cellsP_get1 (L.take k) L[k].1 L[k].2
  rw [hk] at h0 h1
  have hl : (cellsP (L.take k ++ [(L[k].1, L[k].2)])).length = k * 2 + 2 := by rw [cellsP_len, List.length_append, hk, List.length_singleton]; omega
  constructor
  · conv => lhs; rw [e]
    rw [cellsP_append, List.getElem?_append_left (by omega), h0]
  · conv => lhs; rw [e]
    rw [cellsP_append, List.getElem?_append_left (by omega), h1]
theorem IsMap.ofOwns {w : World} {base : Nat} {v : Value} {L : List (Int × Int)} (h : w.ownsRow base 87 2 v L.length (cellsP L)) : IsMap w v L := by
  obtain ⟨_, ⟨hv, hn⟩ | ⟨g, cap, cur, hv, hb, hh, hn, hm, hs, ht⟩⟩ := h
  · exact .inl ⟨⟨none, 0, hv⟩, by simpa using hn⟩
  · have ho : w.ownsRow base 87 2 (.slice (some ⟨g, 0, none⟩) L.length cap) L.length (cellsP L) := ⟨cellsP_len L, .inr ⟨g, cap, cur, rfl, hb, hh, hn, hm, hs, ht⟩⟩
    refine .inr ⟨g, 0, cap, hv, fun k hk => ?_⟩
    have := cellsP_at L k hk
    rw [Nat.zero_add, ho.cellAt _ (by omega), ho.cellAt _ (by omega)]
    exact this
/-- The map that comes back: too many pieces are an error. -/
def mapR (L : List (Int × Int)) : List (Int × Int) := if 20 < L.length then [] else L
def mapE (L : List (Int × Int)) : Int := if 20 < L.length then 4 else 0
/-- A map and an error come back; nothing old has turned. -/
def GivesMap (L : List (Int × Int)) (k : Int) (w : World) (e : Ending) (w' : World) : Prop := ∃ v, e = .returned (.tuple #[v, errOf k]) ∧ IsMap w' v L ∧ Ext w w'

set_option maxHeartbeats 4000000 in
set_option maxRecDepth 100000 in
theorem find_any (s : ByteArray) (blk : Int) (hs : s.size ≤ 600) (h1 : 1 ≤ blk) (h2 : blk ≤ 9223372036854775807) (b : Nat) (hb : (b : Int) = min blk (max s.size 1)) (w : World) :
    Calls Tryd.prog 21 #[.string s, .int .i64 blk] w (GivesMap (mapR (findL (datAt s b) s.size)) (mapE (findL (datAt s b) s.size)) w) := by
  obtain ⟨i0, hi, hz0, hz1, hz2⟩ := info_parts infoPc
  have hb1 : 1 ≤ b := by omega
  have hb2 : b ≤ 600 := by omega
  obtain ⟨N, hN⟩ : ∃ N : Nat, N = (s.size + b - 1) / b := ⟨_, rfl⟩
  have hNi : Hid (((s.size : Int) + (b : Int) - 1) / (b : Int) = (N : Int)) := Lib.hid (by
    rw [hN, show (s.size : Int) + (b : Int) - 1 = ((s.size + b - 1 : Nat) : Int) by omega]; rfl)
  have hNk : Hid (∀ k, k < N ↔ k * b < s.size) := Lib.hid (fun k => by
    rw [hN, Nat.lt_iff_add_one_le, Nat.le_div_iff_mul_le (by omega), Nat.succ_mul]; omega)
  have hbm := Lib.hid hb
  clear hN hb
  go_enter Tryd.func21, Tryd.ntmps21
  go_wp2_with fail
  rw [← hbm.out, hNi.out]
  go_loopw [6, 26] (fun v i wr => ∃ k : Nat, k ≤ N ∧ i = .int .i64 (k : Int) ∧ wr.ownsRow w.heap.size 87 2 v (findB s b k).length (cellsP (findB s b k)) ∧ Ext w wr) (fun _ i _ => N - (intOf i).toNat)
  case atStart => exact ⟨0, by omega, rfl, by simp only [findB, Nat.zero_mul, Nat.zero_min]; exact World.ownsRow_nil _ _ _ _, Ext.refl _⟩
  case round =>
    obtain ⟨k, hk, rfl, hown, hE⟩ := hrel
    by_cases hlt : k < N
    · have hp := (hNk.out k).1 hlt
      obtain ⟨p, hpe⟩ : ∃ p : Nat, p = k * b := ⟨_, rfl⟩
      rw [← hpe] at hp
      have hpi : Hid ((k : Int) * (b : Int) = (p : Int)) := Lib.hid (by rw [hpe]; simp)
      have Hpe := Lib.hid hpe
      have hk6 : k ≤ p := by rw [hpe]; exact Nat.le_mul_of_pos_right k hb1
      have hw : wrap64 ((k : Int) * (b : Int)) = (p : Int) := by rw [hpi.out]; unfold wrap64; omega
      clear hpe
      obtain ⟨m, hm, hs0, hs1⟩ := find_step s b k hb1 (by rw [← Hpe.out]; exact hp)
      rw [← Hpe.out] at hm hs0 hs1
      have S0 := Lib.hid hs0
      have S1 := Lib.hid hs1
      have hm2 : p + (m + 1) ≤ s.size := by omega
      have hm3 : m + 1 ≤ b := by omega
      have Hm : Hid (min ((p : Int) + (b : Int)) (s.size : Int) = ((p + (m + 1) : Nat) : Int)) := Lib.hid (by omega)
      have hxs : (s.extract p (p + (m + 1))).size = m + 1 := by rw [ByteArray.size_extract]; omega
      have hlen := findB_len s b k
      have C1 := Lib.hid (trim_any (s.extract p (p + (m + 1))) (by omega) wr)
      have hdd : Hid (datB (s.extract p (p + (m + 1))) = !(trimZ (s.extract p (p + (m + 1)))).toList.isEmpty) := Lib.hid rfl
      clear hs0 hs1 hm
      go_wp2_with fail
      rw [hw, Hm.out, Int.toNat_natCast]
      clear hw
      generalize s.extract p (p + (m + 1)) = x at *
      refine C1.out.mono ?_; rintro e w1 ⟨rfl, hx1⟩
      have hown1 := own_ext hown hx1
      have Hown := Lib.hid hown1
      have hE1 := hE.trans hx1
      have hz1' := hE1.size
      clear hown hown1 hE hx1
      cases hD : datB x with
      | false =>
        have HD := Lib.hid hD
        have hem : (trimZ x).toList.isEmpty = true := by have := hdd.out; rw [hD] at this; simpa using this
        have e2 := Lib.hid (S0.out hD)
        clear hD
        go_wp2_with fail
        go_roundw
        case rel => exact ⟨k + 1, hlt, by go_num, by rw [e2.out]; exact Hown.out, hE1⟩
        case measure => simp [intOf]; omega
      | true =>
        have hem : (trimZ x).toList.isEmpty = false := by have := hdd.out; rw [hD] at this; simpa using this
        rcases S1.out hD with ⟨e0, e2⟩ | ⟨l, a, z, e0, ha, hz, haz, ⟨e1, e2⟩ | ⟨e1, e2⟩⟩
        all_goals
          rw [e0] at Hown hlen
          have E2 := Lib.hid e2
          clear e2 hD
        · obtain ⟨oa, cap, rfl⟩ := own_zero Hown.out
          go_wp2_with fail
          refine wp_region_det (Stood _) (by kernel_rfl) (by kernel_rfl) (Stood.start _) ?_
          repeat (first
            | (refine det_skip (by rfl) ?_; simp only [Act.put, List.setIfInBounds_toArray, List.set_cons_zero, List.set_cons_succ])
            | (refine det_op (v := ?_) rfl (by rfl) (fun w' hS => ?_) ?_; rotate_left; (focus (obtain ⟨hcl, hxt⟩ := hS; go_wp2_with (fail); (first | refine ⟨?_, rfl, hcl, hxt⟩ | refine ⟨?_, rfl, Stood.of (hxt.trans (by assumption))⟩); (first | (simp only [List.getElem?_toArray, List.getElem?_cons_succ, List.getElem?_cons_zero]; rfl) | rfl))); simp only [Act.put, List.setIfInBounds_toArray, List.set_cons_zero, List.set_cons_succ]))
          refine det_end ?_
          intro w2 hS
          have hx2 := hS.2
          clear hS
          have hown2 := own_ext Hown.out hx2
          have hE2 := hE1.trans hx2
          have hz2' := hE2.size
          go_wp2_with (at_builtin; refine wpList_append_own _ rfl _ _ 22 rfl (w.heap.size) 87 i0 (.agg #[.int .i64 0, .int .i64 0]) 2 16 Tryd.underlying22 hi hz0 hz1 hz2 rfl (by decide) _ _ _ rfl (hown2.alloc _) ⟨w2.heap.size, 0, none⟩ 1 1 [.int .i64 (p : Int), .int .i64 ((m : Int) + 1)] rfl rfl ?c1 ?c2 ?c3 ?c4 ?c5 ?_)
          case c1 =>
            intro j u hj
            match j, hj with
            | 0, hj => simp at hj; subst hj; simp [Addr.add]
            | 1, hj => simp at hj; subst hj; simp [Addr.add]
          case c2 => intro u hu; simp at hu; rcases hu with rfl | rfl <;> rfl
          case c3 => simp only [List.length_nil] at *; unfold maxLen; omega
          case c4 => simp only [List.length_nil] at *; omega
          case c5 => simp; omega
          intro v' w3 hown3 hgrow _
          have hE3 : Ext w w3 := (hE2.alloc _).ofGrown hgrow (fun j hj => own_ge hown2 (Nat.le_refl _) j hj)
          have Hn : Hid (w3.ownsRow w.heap.size 87 2 v' (findB s b (k + 1)).length (cellsP (findB s b (k + 1)))) := Lib.hid (by rw [E2.out]; simpa [cellsP] using hown3)
          clear hown2 hown3 hgrow
          go_wp2_with fail
          go_roundw
          case rel => exact ⟨k + 1, hlt, by go_num, Hn.out, hE3⟩
          case measure => simp [intOf]; omega
        · rw [List.length_append] at Hown
          obtain ⟨g, cap, rfl, hgb, hgl, hgc, hgm⟩ := own_ne Hown.out
          have hwc0 := Hown.out.cellAt (l.length * 2) (by omega)
          have hwc1 := Hown.out.cellAt (l.length * 2 + 1) (by omega)
          rw [cellsP_get0] at hwc0
          rw [cellsP_get1] at hwc1
          have hfz := Hown.out.frozenAt (l.length * 2 + 1)
          rw [List.length_append, List.length_singleton] at hlen
          unfold maxLen at hgm
          go_wp2_with fail
          refine wp_region_det (Stood _) (by kernel_rfl) (by kernel_rfl) (Stood.start _) ?_
          repeat (first
            | (refine det_skip (by rfl) ?_; simp only [Act.put, List.setIfInBounds_toArray, List.set_cons_zero, List.set_cons_succ])
            | (refine det_op (v := ?_) rfl (by rfl) (fun w' hS => ?_) ?_; rotate_left; (focus (obtain ⟨hcl, hxt⟩ := hS; go_wp2_with (fail); (first | refine ⟨?_, rfl, hcl, hxt⟩ | refine ⟨?_, rfl, Stood.of (hxt.trans (by assumption))⟩); (first | (simp only [List.getElem?_toArray, List.getElem?_cons_succ, List.getElem?_cons_zero]; rfl) | rfl))); simp only [Act.put, List.setIfInBounds_toArray, List.set_cons_zero, List.set_cons_succ]))
          refine det_end ?_
          intro w2 hS
          have hx2 := hS.2
          clear hS
          have hown2 := own_ext Hown.out hx2
          have hE2 := hE1.trans hx2
          have hc1 := hx2.cell hwc1
          have hf2 := hown2.frozenAt (l.length * 2 + 1)
          clear hwc0 hwc1 hfz
          have Hs := Lib.hid (hown2.stored (l.length * 2 + 1) (.int .i64 (z + ((m : Int) + 1)))).1
          have Hn : Hid ((w2.setCell ⟨g, l.length * 2 + 1, none⟩ (.int .i64 (z + ((m : Int) + 1)))).ownsRow w.heap.size 87 2 (.slice (some ⟨g, 0, none⟩) (l.length + 1) cap) (findB s b (k + 1)).length (cellsP (findB s b (k + 1)))) := Lib.hid (by
            rw [E2.out, ← cellsP_set l a z]; simpa using Hs.out)
          clear hown2 Hs
          go_wp2_with fail
          go_roundw
          case rel => exact ⟨k + 1, hlt, by go_num, Hn.out, hE2.setCell hgb _⟩
          case measure => simp [intOf]; omega
        · rw [List.length_append] at Hown
          obtain ⟨g, cap, rfl, hgb, hgl, hgc, hgm⟩ := own_ne Hown.out
          have hwc0 := Hown.out.cellAt (l.length * 2) (by omega)
          have hwc1 := Hown.out.cellAt (l.length * 2 + 1) (by omega)
          rw [cellsP_get0] at hwc0
          rw [cellsP_get1] at hwc1
          have hfz := Hown.out.frozenAt (l.length * 2 + 1)
          rw [List.length_append, List.length_singleton] at hlen
          unfold maxLen at hgm
          go_wp2_with fail
          refine wp_region_det (Stood _) (by kernel_rfl) (by kernel_rfl) (Stood.start _) ?_
          repeat (first
            | (refine det_skip (by rfl) ?_; simp only [Act.put, List.setIfInBounds_toArray, List.set_cons_zero, List.set_cons_succ])
            | (refine det_op (v := ?_) rfl (by rfl) (fun w' hS => ?_) ?_; rotate_left; (focus (obtain ⟨hcl, hxt⟩ := hS; go_wp2_with (fail); (first | refine ⟨?_, rfl, hcl, hxt⟩ | refine ⟨?_, rfl, Stood.of (hxt.trans (by assumption))⟩); (first | (simp only [List.getElem?_toArray, List.getElem?_cons_succ, List.getElem?_cons_zero]; rfl) | rfl))); simp only [Act.put, List.setIfInBounds_toArray, List.set_cons_zero, List.set_cons_succ]))
          refine det_end ?_
          intro w2 hS
          have hx2 := hS.2
          clear hS
          clear hwc0 hwc1 hfz
          have hown2 := own_ext Hown.out hx2
          have hE2 := hE1.trans hx2
          have hz2' := hE2.size
          go_wp2_with (at_builtin; refine wpList_append_own _ rfl _ _ 22 rfl (w.heap.size) 87 i0 (.agg #[.int .i64 0, .int .i64 0]) 2 16 Tryd.underlying22 hi hz0 hz1 hz2 rfl (by decide) _ _ _ rfl (hown2.alloc _) ⟨w2.heap.size, 0, none⟩ 1 1 [.int .i64 (p : Int), .int .i64 ((m : Int) + 1)] rfl rfl ?c1 ?c2 ?c3 ?c4 ?c5 ?_)
          case c1 =>
            intro j u hj
            match j, hj with
            | 0, hj => simp at hj; subst hj; simp [Addr.add]
            | 1, hj => simp at hj; subst hj; simp [Addr.add]
          case c2 => intro u hu; simp at hu; rcases hu with rfl | rfl <;> rfl
          case c3 => simp only [List.length_nil, List.length_cons] at *; unfold maxLen; omega
          case c4 => simp only [List.length_nil, List.length_cons] at *; omega
          case c5 => simp; omega
          intro v' w3 hown3 hgrow _
          have hE3 : Ext w w3 := (hE2.alloc _).ofGrown hgrow (fun j hj => own_ge hown2 (Nat.le_refl _) j hj)
          have Hn : Hid (w3.ownsRow w.heap.size 87 2 v' (findB s b (k + 1)).length (cellsP (findB s b (k + 1)))) := Lib.hid (by rw [E2.out]; simpa [cellsP] using hown3)
          clear hown2 hown3 hgrow
          go_wp2_with fail
          go_roundw
          case rel => exact ⟨k + 1, hlt, by go_num, Hn.out, hE3⟩
          case measure => simp [intOf]; omega
    · obtain rfl : k = N := by omega
      have hend : Hid (findB s b k = findL (datAt s b) s.size) := Lib.hid (by
        unfold findB
        have := (hNk.out k)
        rw [Nat.min_eq_right (by omega)])
      have hlen := findB_len s b k
      have HR := Lib.hid (IsMap.ofOwns hown)
      rw [hend.out] at HR hlen
      have hsl : ∃ oa cap, u6 = .slice oa (findL (datAt s b) s.size).length cap := by
        rcases HR.out with ⟨⟨a, c, h⟩, h0⟩ | ⟨b, off, cap, h, _⟩
        · exact ⟨_, _, by rw [h0]; exact h⟩
        · exact ⟨_, _, h⟩
      clear hown
      obtain ⟨oa, cap, rfl⟩ := hsl
      generalize findL (datAt s b) s.size = L at *
      cases hq : decide (20 < (L.length : Int)) with
      | true =>
        have hq2 : 20 < (L.length : Int) := of_decide_eq_true hq
        have e1 : Hid (mapR L = []) := Lib.hid (by unfold mapR; rw [if_pos (by omega)])
        have e2 : Hid (errOf (mapE L) = .iface 23 (.int .i64 4)) := Lib.hid (by unfold mapE; rw [if_pos (by omega)]; rfl)
        go_wp2_with fail
        go_ret2
        exact ⟨_, ret_val (by rw [e2.out]; rfl), by rw [e1.out]; exact .inl ⟨⟨_, _, rfl⟩, rfl⟩, hE⟩
      | false =>
        have hq2 : ¬ 20 < (L.length : Int) := of_decide_eq_false hq
        have e1 : Hid (mapR L = L) := Lib.hid (by unfold mapR; rw [if_neg (by omega)])
        have e2 : Hid (errOf (mapE L) = .nilIface) := Lib.hid (by unfold mapE; rw [if_neg (by omega)]; rfl)
        go_wp2_with fail
        go_ret2
        exact ⟨_, ret_val (by rw [e2.out]; rfl), by rw [e1.out]; exact HR.out, hE⟩

theorem find_small (s : ByteArray) (blk : Int) (h1 : blk < 1) (w : World) :
    Calls Tryd.prog 21 #[.string s, .int .i64 blk] w fun e w' => e = .returned (.tuple #[.slice none 0 0, .iface 23 (.int .i64 1)]) ∧ Ext w w' := by
  go_enter Tryd.func21, Tryd.ntmps21
  go_wp2_with fail
  go_ret2
  exact ⟨rfl, (by show Below _ _ _; repeat' (first | (with_reducible exact Below.refl _ _) | (with_reducible assumption) | (with_reducible refine belowDrewN ?_ _) | (with_reducible refine Below.alloc ?_ ?_ _) | (with_reducible refine Below.drew ?_) | (with_reducible refine Below.setCell ?_ ?_ _) | go_size))⟩
end Go.Proofs.YtedcibjnnihhfaaDoor
