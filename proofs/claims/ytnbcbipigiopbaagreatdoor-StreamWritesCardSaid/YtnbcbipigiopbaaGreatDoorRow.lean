/-
  member.row: the first pieces of a list as bytes, and the others. No conditions but the pieces' bounds.
-/
import Derived.Test.YtnbcbipigiopbaaGreatDoorPkJ
namespace Go.Proofs.YtnbcbipigiopbaaGreatDoor
open Go.RowKit Go.WideShapes

theorem piece_box {w W : World} {a s : Int} {t : TypeId} (h : Ext (w.alloc (.cells #[.int .i64 a, .int .i64 s] t)) W) :
    W.cell? ⟨w.heap.size, 0, none⟩ = some (.int .i64 a) ∧ W.cell? ⟨w.heap.size, 1, none⟩ = some (.int .i64 s) ∧ w.heap.size < W.heap.size := by
  have h1 := h.cell (show (w.alloc (.cells #[.int .i64 a, .int .i64 s] t)).cell? ⟨w.heap.size, 0, none⟩ = some (.int .i64 a) by simp)
  have h2 := h.cell (show (w.alloc (.cells #[.int .i64 a, .int .i64 s] t)).cell? ⟨w.heap.size, 1, none⟩ = some (.int .i64 s) by simp)
  exact ⟨h1, h2, World.block_lt_of_cell? W _ h1⟩
/-- The pieces behind the first m. -/
theorem IsPieces.rest {w : World} {b off n m : Nat} {A S : Nat → Int} (hn : n ≤ 8796093022200) (hm : m ≤ n)
    (hc : ∀ k, k < n → w.cell? ⟨b, off + k * 2, none⟩ = some (.int .i64 (A k)) ∧ w.cell? ⟨b, off + k * 2 + 1, none⟩ = some (.int .i64 (S k))) (e : Nat) (he : e = off + m * 2) (c : Nat) :
    IsPieces w (.slice (some ⟨b, e, none⟩) (n - m) c) (n - m) (fun k => A (m + k)) (fun k => S (m + k)) := by
  subst he
  refine .inr ⟨b, off + m * 2, c, rfl, by omega, fun k hk => ?_⟩
  have := hc (m + k) (by omega)
  rw [show off + (m + k) * 2 = off + m * 2 + k * 2 by omega] at this
  exact this
theorem IsPieces.none {w : World} {n m : Nat} (A S : Nat → Int) (h : n ≤ m) : IsPieces w (.slice Option.none 0 0) (n - m) (fun k => A (m + k)) (fun k => S (m + k)) := .inl ⟨⟨_, _, rfl⟩, by omega⟩
/-- The first m pieces as bytes, whether there are more, and these come back. -/
def GivesRow (A S : Nat → Int) (n m : Nat) (w : World) (e : Ending) (w' : World) : Prop :=
  ∃ (ra : Option Addr) (rc : Nat), e = .returned (.tuple #[.string (rowQ A S n m), .string ⟨#[if m < n then 1 else 0]⟩, .slice ra (n - m) rc]) ∧ n - m ≤ rc ∧ IsPieces w' (.slice ra (n - m) rc) (n - m) (fun k => A (m + k)) (fun k => S (m + k)) ∧ Ext w w'

set_option maxHeartbeats 4000000 in
set_option maxRecDepth 100000 in
theorem row4_any (w : World) (pa : Option Addr) (n cap : Nat) (hcap : n ≤ cap) (A S : Nat → Int) (h : IsPieces w (.slice pa n cap) n A S) (hf : Fits12 A S n) (hb : ∀ k, k < n → A k ≤ 4000 ∧ S k ≤ 4000) :
    Calls Tryz.prog 134 #[.slice pa n cap, .int .i64 4] w (GivesRow A S n 4 w) := by
  have hmk := run_make_row' (P := Tryz.prog) 98 5 (.int .u8 0) 1 Tryz.underlying98 infoU8q rfl .i64 .i64 96 (by omega) (by omega)
  rw [zeros_made, show ((96 : Nat) : Int) = (96 : Int) from rfl, show List.replicate 96 (0 : UInt8) = rowL A S 4 0 from (rowL_zero A S 4).symm] at hmk
  have hD := Lib.hid (rowQ_done A S n 4)
  have hrl0 : (rowL A S 4 0).length = 96 := rowL_len hf (Nat.zero_le _) (Nat.zero_le _)
  rcases h with ⟨⟨a0, c0, ha⟩, rfl⟩ | ⟨b, off, cap', ha, hn, hc⟩
  · rw [show min 4 0 = 0 from rfl] at hD
    have hB : BytesAt (w.alloc (.cells (Lib.byteCells (rowL A S 4 0)).toArray 5)) w.heap.size (rowL A S 4 0) := bytesAt_of (heap_alloc_new _ _)
    have hcv := hB.conv 96 96 hrl0
    have hmin : min (4 : Int) 0 = 0 := by decide
    clear hB hrl0 ha
    generalize rowL A S 4 0 = R0 at *
    go_enter Tryz.func134, Tryz.ntmps134
    go_wp2_with fail
    refine wp_loop_rounds 1 ?_
    rw [rounds_succ]
    go_wp2_with fail
    go_returns
    exact ⟨_, _, by rw [← hD.out]; rfl, Nat.zero_le _, .inl ⟨⟨_, _, rfl⟩, rfl⟩, (by show Below _ _ _; repeat' (first | (with_reducible exact Below.refl _ _) | (with_reducible assumption) | (with_reducible refine belowDrewN ?_ _) | (with_reducible refine Below.alloc ?_ ?_ _) | (with_reducible refine Below.drew ?_) | (with_reducible refine Below.setCell ?_ ?_ _) | go_size))⟩
  · simp only [Value.slice.injEq] at ha
    obtain ⟨rfl, _, rfl⟩ := ha
    obtain ⟨q, hq⟩ : ∃ q, q = min 4 n := ⟨_, rfl⟩
    rw [← hq] at hD
    have Hrl := Lib.hid (fun k (hk : k ≤ q) => rowL_len (m := 4) hf (k := k) (by omega) (by omega))
    have Hst := Lib.hid (fun k (hk : k < q) => rowL_step (m := 4) hf (k := k) (by omega) (by omega))
    have Hpz := Lib.hid (fun k (hk : k < q) => pcB_size (hf k (by omega)))
    have Hc := Lib.hid hc
    have Hb := Lib.hid hb
    have HR := Lib.hid (fun (W : World) (hE : Ext w W) (hm : 4 ≤ n) e he c => IsPieces.rest (w := W) (b := b) (off := off) (m := 4) hn hm (fun k hk => ⟨hE.cell (hc k hk).1, hE.cell (hc k hk).2⟩) e he c)
    have hmin : min (4 : Int) (n : Int) = (q : Int) := by omega
    have hqm : q ≤ 4 := by omega
    have hqn : q ≤ n := by omega
    have hqc : (q : Int) ≤ (cap : Int) := by omega
    have hncap : (n : Int) ≤ (cap : Int) := by omega
    have Hq := Lib.hid hq
    have hL0 := Lib.hid hrl0
    obtain ⟨R0, hR0⟩ : ∃ R0, R0 = rowL A S 4 0 := ⟨_, rfl⟩
    rw [← hR0] at hmk
    have HR0 := Lib.hid hR0
    clear hc hf hb hq hrl0 hR0
    go_enter Tryz.func134, Tryz.ntmps134
    go_wp2_with fail
    go_loopw [22] (fun i wr => ∃ k : Nat, k ≤ q ∧ i = .int .i64 (k : Int) ∧ Hid (wr.heap[w.heap.size]? = some (.cells (Lib.byteCells (rowL A S 4 k)).toArray 5 (0, 0))) ∧ Ext w wr ∧ w.heap.size < wr.heap.size) (fun i _ => q - (intOf i).toNat)
    case atStart => exact ⟨0, Nat.zero_le _, rfl, Lib.hid (by rw [← HR0.out]; exact heap_alloc_new _ _), (Ext.refl w).alloc _, by simp⟩
    case round =>
      obtain ⟨k, hk, rfl, hrow, hE, hg⟩ := hrel
      by_cases hlt : k < q
      · have g1 := hE.cell (Hc.out k (by omega)).1
        have g2 := hE.cell (Hc.out k (by omega)).2
        have hbk := Hb.out k (by omega)
        have C1 := Lib.hid (fun w => digits_any (A k) (by omega) w)
        have C2 := Lib.hid (fun w => digits_any (S k) (by omega) w)
        have hpz := Hpz.out k hlt
        have hst := Lib.hid (Hst.out k hlt)
        have hrl := Lib.hid (Hrl.out k (by omega))
        have hpc : Hid (pcB A S k = octS (A k) 12 ++ octS (S k) 12) := Lib.hid rfl
        have z1 := octS_le (A k) 12
        have z2 := octS_le (S k) 12
        generalize A k = ak at *
        generalize S k = sk at *
        generalize octS ak 12 = d1 at *
        generalize octS sk 12 = d2 at *
        generalize pcB A S k = pk at *
        have Hpk := Lib.hid hpz
        clear hpz hbk
        have i1 : 24 * (k : Int) ≤ 96 := by omega
        have i0 : 0 ≤ 24 * (k : Int) := by omega
        go_wp2_with fail
        refine wp_region_detT (fun _ _ w9 => Stood _ w9) false 11 99 (by kernel_rfl) (by kernel_rfl) (Stood.start _) ?_
        simp only [List.take_succ_cons, List.take_zero, List.drop_succ_cons, List.drop_zero]
        repeat (first
          | (refine detT_skip (by decide) (by rfl) ?_; simp only [Act.put, List.setIfInBounds_toArray, List.set_cons_zero, List.set_cons_succ])
          | (refine detT_plain (v := ?_) (by decide) rfl (by rfl) (fun _ _ w' hS => ?_) ?_; rotate_left; (focus (obtain ⟨hcl, hxt⟩ := hS; go_wp2_with (first | ((with_reducible refine (C1.out _).mono ?_); rintro e w1 ⟨rfl, hx1⟩) | ((with_reducible refine (C2.out _).mono ?_); rintro e w1 ⟨rfl, hx1⟩)); (first | refine ⟨?_, rfl, hcl, hxt⟩ | refine ⟨?_, rfl, Stood.of (hxt.trans (by assumption))⟩); (first | (simp only [List.getElem?_toArray, List.getElem?_cons_succ, List.getElem?_cons_zero]; rfl) | rfl))); simp only [Act.put, List.setIfInBounds_toArray, List.set_cons_zero, List.set_cons_succ]))
        refine detT_end ?_
        intro w8 hS
        have hx8 := hS.2
        clear hS
        have hrow8 := (hx8.block w.heap.size (by rw [World.size_alloc]; omega)).trans ((heap_alloc_old wr _ hg).trans hrow.out)
        have Hrow8 := Lib.hid hrow8
        have hE8 : Ext w w8 := (hE.alloc _).trans hx8
        have hsz8 : w.heap.size < w8.heap.size := by have := hx8.size; simp at this; omega
        have hi4 : 24 * k + 24 ≤ 96 := by omega
        clear hrow8
        refine wpList_copy_str rfl (.tmp 30) (.tmp 37) 98 9 rfl 5 Tryz.underlying98 infoU8p w.heap.size (24 * k) (96 - 24 * k) (96 - 24 * k) pk (Lib.byteCells (rowL A S 4 k)) 5 ?hd ?hx
          Hrow8.out (by rw [Hpk.out]; omega) (by rw [Hpk.out, byteCells_len, hrl.out]; omega) w w.heap.size hE8 (Nat.le_refl _) ?_
        case hd => rfl
        case hx => rw [hpc.out]; rfl
        intro w9 hrow9 hB9 hsz9 hcl9
        have hrow9' : Hid (w9.heap[w.heap.size]? = some (.cells (Lib.byteCells (rowL A S 4 (k + 1))).toArray 5 (0, 0))) := Lib.hid (by rw [← hst.out, ← byteCells_splice]; exact hrow9.out)
        have hsz9' : w.heap.size < w9.heap.size := by have := hsz9.out; omega
        clear hcl9 hrow9 hsz9
        go_wp2_with fail
        go_roundw
        case rel => exact ⟨k + 1, hlt, by go_num, hrow9', hB9, hsz9'⟩
        case measure => simp [intOf]; omega
      · obtain rfl : k = q := by omega
        have hrl : (rowL A S 4 k).length = 96 := Hrl.out k (Nat.le_refl _)
        have hcv := (bytesAt_of hrow.out).conv 96 96 hrl
        clear hrl
        have HcvE := Lib.hid (fun w' (hx : Ext wr w') => (bytesAt_of (L := rowL A S 4 k) ((hx.block _ hg).trans hrow.out)).conv 96 96 (Hrl.out k (Nat.le_refl _)))
        by_cases hmn : 4 < n
        · have hkm : k = 4 := by have := Hq.out; omega
          have Hkm := Lib.hid hkm
          have HRr := Lib.hid (HR.out wr hE (by omega))
          have i1 : (k : Int) ≤ (n : Int) := by omega
          have hd1 : decide ((k : Int) < (n : Int)) = true := decide_eq_true (by omega)
          have i2 : ¬ (cap = k) := by omega
          have i3 : ¬ (n = k) := by omega
          have hcond : Hid ((if 4 < n then 1 else 0 : UInt8) = 1) := Lib.hid (if_pos hmn)
          clear HR hmn hkm hcv
          go_wp2_with fail
          refine wp_region_det (Stood _) (by kernel_rfl) (by kernel_rfl) (Stood.start _) ?_
          repeat (first
            | (refine det_skip (by rfl) ?_; simp only [Act.put, List.setIfInBounds_toArray, List.set_cons_zero, List.set_cons_succ])
            | (refine det_op (v := ?_) rfl (by rfl) (fun w' hS => ?_) ?_; rotate_left; (focus (obtain ⟨hcl, hxt⟩ := hS; go_wp2_with (first | (rw [HcvE.out _ hxt])); (first | refine ⟨?_, rfl, hcl, hxt⟩ | refine ⟨?_, rfl, Stood.of (hxt.trans (by assumption))⟩); (first | (simp only [List.getElem?_toArray, List.getElem?_cons_succ, List.getElem?_cons_zero]; rfl) | rfl))); simp only [Act.put, List.setIfInBounds_toArray, List.set_cons_zero, List.set_cons_succ]))
          refine det_end ?_
          intro w9 hS
          have hx9 := hS.2
          clear hS
          go_wp2_with fail
          go_returns
          have hk4 := Hkm.out
          subst hk4
          exact ⟨some ⟨b, off + 4 * 2, none⟩, cap - 4, by rw [hcond.out, ← hD.out]; rfl, by omega, (HRr.out _ rfl _).ext hx9, hE.trans hx9⟩
        · have hd1 : decide ((k : Int) < (n : Int)) = false := decide_eq_false (by have := Hq.out; omega)
          have hkn : k = n := by have := Hq.out; omega
          subst hkn
          have hcond : Hid ((if 4 < k then 1 else 0 : UInt8) = 0) := Lib.hid (if_neg hmn)
          have hk0 : Hid (k - 4 = 0) := Lib.hid (by omega)
          have hle : Hid (k ≤ 4) := Lib.hid (by omega)
          clear HR hmn
          go_wp2_with fail
          go_returns
          exact ⟨none, 0, by rw [hcond.out, ← hD.out, hk0.out]; rfl, by omega, by rw [hk0.out]; exact .inl ⟨⟨_, _, rfl⟩, rfl⟩, hE⟩
set_option maxHeartbeats 4000000 in
set_option maxRecDepth 100000 in
theorem row21_any (w : World) (pa : Option Addr) (n cap : Nat) (hcap : n ≤ cap) (A S : Nat → Int) (h : IsPieces w (.slice pa n cap) n A S) (hf : Fits12 A S n) (hb : ∀ k, k < n → A k ≤ 4000 ∧ S k ≤ 4000) :
    Calls Tryz.prog 134 #[.slice pa n cap, .int .i64 21] w (GivesRow A S n 21 w) := by
  have hmk := run_make_row' (P := Tryz.prog) 98 5 (.int .u8 0) 1 Tryz.underlying98 infoU8q rfl .i64 .i64 504 (by omega) (by omega)
  rw [zeros_made, show ((504 : Nat) : Int) = (504 : Int) from rfl, show List.replicate 504 (0 : UInt8) = rowL A S 21 0 from (rowL_zero A S 21).symm] at hmk
  have hD := Lib.hid (rowQ_done A S n 21)
  have hrl0 : (rowL A S 21 0).length = 504 := rowL_len hf (Nat.zero_le _) (Nat.zero_le _)
  rcases h with ⟨⟨a0, c0, ha⟩, rfl⟩ | ⟨b, off, cap', ha, hn, hc⟩
  · rw [show min 21 0 = 0 from rfl] at hD
    have hB : BytesAt (w.alloc (.cells (Lib.byteCells (rowL A S 21 0)).toArray 5)) w.heap.size (rowL A S 21 0) := bytesAt_of (heap_alloc_new _ _)
    have hcv := hB.conv 504 504 hrl0
    have hmin : min (21 : Int) 0 = 0 := by decide
    clear hB hrl0 ha
    generalize rowL A S 21 0 = R0 at *
    go_enter Tryz.func134, Tryz.ntmps134
    go_wp2_with fail
    refine wp_loop_rounds 1 ?_
    rw [rounds_succ]
    go_wp2_with fail
    go_returns
    exact ⟨_, _, by rw [← hD.out]; rfl, Nat.zero_le _, .inl ⟨⟨_, _, rfl⟩, rfl⟩, (by show Below _ _ _; repeat' (first | (with_reducible exact Below.refl _ _) | (with_reducible assumption) | (with_reducible refine belowDrewN ?_ _) | (with_reducible refine Below.alloc ?_ ?_ _) | (with_reducible refine Below.drew ?_) | (with_reducible refine Below.setCell ?_ ?_ _) | go_size))⟩
  · simp only [Value.slice.injEq] at ha
    obtain ⟨rfl, _, rfl⟩ := ha
    obtain ⟨q, hq⟩ : ∃ q, q = min 21 n := ⟨_, rfl⟩
    rw [← hq] at hD
    have Hrl := Lib.hid (fun k (hk : k ≤ q) => rowL_len (m := 21) hf (k := k) (by omega) (by omega))
    have Hst := Lib.hid (fun k (hk : k < q) => rowL_step (m := 21) hf (k := k) (by omega) (by omega))
    have Hpz := Lib.hid (fun k (hk : k < q) => pcB_size (hf k (by omega)))
    have Hc := Lib.hid hc
    have Hb := Lib.hid hb
    have HR := Lib.hid (fun (W : World) (hE : Ext w W) (hm : 21 ≤ n) e he c => IsPieces.rest (w := W) (b := b) (off := off) (m := 21) hn hm (fun k hk => ⟨hE.cell (hc k hk).1, hE.cell (hc k hk).2⟩) e he c)
    have hmin : min (21 : Int) (n : Int) = (q : Int) := by omega
    have hqm : q ≤ 21 := by omega
    have hqn : q ≤ n := by omega
    have hqc : (q : Int) ≤ (cap : Int) := by omega
    have hncap : (n : Int) ≤ (cap : Int) := by omega
    have Hq := Lib.hid hq
    have hL0 := Lib.hid hrl0
    obtain ⟨R0, hR0⟩ : ∃ R0, R0 = rowL A S 21 0 := ⟨_, rfl⟩
    rw [← hR0] at hmk
    have HR0 := Lib.hid hR0
    clear hc hf hb hq hrl0 hR0
    go_enter Tryz.func134, Tryz.ntmps134
    go_wp2_with fail
    go_loopw [22] (fun i wr => ∃ k : Nat, k ≤ q ∧ i = .int .i64 (k : Int) ∧ Hid (wr.heap[w.heap.size]? = some (.cells (Lib.byteCells (rowL A S 21 k)).toArray 5 (0, 0))) ∧ Ext w wr ∧ w.heap.size < wr.heap.size) (fun i _ => q - (intOf i).toNat)
    case atStart => exact ⟨0, Nat.zero_le _, rfl, Lib.hid (by rw [← HR0.out]; exact heap_alloc_new _ _), (Ext.refl w).alloc _, by simp⟩
    case round =>
      obtain ⟨k, hk, rfl, hrow, hE, hg⟩ := hrel
      by_cases hlt : k < q
      · have g1 := hE.cell (Hc.out k (by omega)).1
        have g2 := hE.cell (Hc.out k (by omega)).2
        have hbk := Hb.out k (by omega)
        have C1 := Lib.hid (fun w => digits_any (A k) (by omega) w)
        have C2 := Lib.hid (fun w => digits_any (S k) (by omega) w)
        have hpz := Hpz.out k hlt
        have hst := Lib.hid (Hst.out k hlt)
        have hrl := Lib.hid (Hrl.out k (by omega))
        have hpc : Hid (pcB A S k = octS (A k) 12 ++ octS (S k) 12) := Lib.hid rfl
        have z1 := octS_le (A k) 12
        have z2 := octS_le (S k) 12
        generalize A k = ak at *
        generalize S k = sk at *
        generalize octS ak 12 = d1 at *
        generalize octS sk 12 = d2 at *
        generalize pcB A S k = pk at *
        have Hpk := Lib.hid hpz
        clear hpz hbk
        have i1 : 24 * (k : Int) ≤ 504 := by omega
        have i0 : 0 ≤ 24 * (k : Int) := by omega
        go_wp2_with fail
        refine wp_region_detT (fun _ _ w9 => Stood _ w9) false 11 99 (by kernel_rfl) (by kernel_rfl) (Stood.start _) ?_
        simp only [List.take_succ_cons, List.take_zero, List.drop_succ_cons, List.drop_zero]
        repeat (first
          | (refine detT_skip (by decide) (by rfl) ?_; simp only [Act.put, List.setIfInBounds_toArray, List.set_cons_zero, List.set_cons_succ])
          | (refine detT_plain (v := ?_) (by decide) rfl (by rfl) (fun _ _ w' hS => ?_) ?_; rotate_left; (focus (obtain ⟨hcl, hxt⟩ := hS; go_wp2_with (first | ((with_reducible refine (C1.out _).mono ?_); rintro e w1 ⟨rfl, hx1⟩) | ((with_reducible refine (C2.out _).mono ?_); rintro e w1 ⟨rfl, hx1⟩)); (first | refine ⟨?_, rfl, hcl, hxt⟩ | refine ⟨?_, rfl, Stood.of (hxt.trans (by assumption))⟩); (first | (simp only [List.getElem?_toArray, List.getElem?_cons_succ, List.getElem?_cons_zero]; rfl) | rfl))); simp only [Act.put, List.setIfInBounds_toArray, List.set_cons_zero, List.set_cons_succ]))
        refine detT_end ?_
        intro w8 hS
        have hx8 := hS.2
        clear hS
        have hrow8 := (hx8.block w.heap.size (by rw [World.size_alloc]; omega)).trans ((heap_alloc_old wr _ hg).trans hrow.out)
        have Hrow8 := Lib.hid hrow8
        have hE8 : Ext w w8 := (hE.alloc _).trans hx8
        have hsz8 : w.heap.size < w8.heap.size := by have := hx8.size; simp at this; omega
        have hi4 : 24 * k + 24 ≤ 504 := by omega
        clear hrow8
        refine wpList_copy_str rfl (.tmp 30) (.tmp 37) 98 9 rfl 5 Tryz.underlying98 infoU8p w.heap.size (24 * k) (504 - 24 * k) (504 - 24 * k) pk (Lib.byteCells (rowL A S 21 k)) 5 ?hd ?hx
          Hrow8.out (by rw [Hpk.out]; omega) (by rw [Hpk.out, byteCells_len, hrl.out]; omega) w w.heap.size hE8 (Nat.le_refl _) ?_
        case hd => rfl
        case hx => rw [hpc.out]; rfl
        intro w9 hrow9 hB9 hsz9 hcl9
        have hrow9' : Hid (w9.heap[w.heap.size]? = some (.cells (Lib.byteCells (rowL A S 21 (k + 1))).toArray 5 (0, 0))) := Lib.hid (by rw [← hst.out, ← byteCells_splice]; exact hrow9.out)
        have hsz9' : w.heap.size < w9.heap.size := by have := hsz9.out; omega
        clear hcl9 hrow9 hsz9
        go_wp2_with fail
        go_roundw
        case rel => exact ⟨k + 1, hlt, by go_num, hrow9', hB9, hsz9'⟩
        case measure => simp [intOf]; omega
      · obtain rfl : k = q := by omega
        have hrl : (rowL A S 21 k).length = 504 := Hrl.out k (Nat.le_refl _)
        have hcv := (bytesAt_of hrow.out).conv 504 504 hrl
        clear hrl
        have HcvE := Lib.hid (fun w' (hx : Ext wr w') => (bytesAt_of (L := rowL A S 21 k) ((hx.block _ hg).trans hrow.out)).conv 504 504 (Hrl.out k (Nat.le_refl _)))
        by_cases hmn : 21 < n
        · have hkm : k = 21 := by have := Hq.out; omega
          have Hkm := Lib.hid hkm
          have HRr := Lib.hid (HR.out wr hE (by omega))
          have i1 : (k : Int) ≤ (n : Int) := by omega
          have hd1 : decide ((k : Int) < (n : Int)) = true := decide_eq_true (by omega)
          have i2 : ¬ (cap = k) := by omega
          have i3 : ¬ (n = k) := by omega
          have hcond : Hid ((if 21 < n then 1 else 0 : UInt8) = 1) := Lib.hid (if_pos hmn)
          clear HR hmn hkm hcv
          go_wp2_with fail
          refine wp_region_det (Stood _) (by kernel_rfl) (by kernel_rfl) (Stood.start _) ?_
          repeat (first
            | (refine det_skip (by rfl) ?_; simp only [Act.put, List.setIfInBounds_toArray, List.set_cons_zero, List.set_cons_succ])
            | (refine det_op (v := ?_) rfl (by rfl) (fun w' hS => ?_) ?_; rotate_left; (focus (obtain ⟨hcl, hxt⟩ := hS; go_wp2_with (first | (rw [HcvE.out _ hxt])); (first | refine ⟨?_, rfl, hcl, hxt⟩ | refine ⟨?_, rfl, Stood.of (hxt.trans (by assumption))⟩); (first | (simp only [List.getElem?_toArray, List.getElem?_cons_succ, List.getElem?_cons_zero]; rfl) | rfl))); simp only [Act.put, List.setIfInBounds_toArray, List.set_cons_zero, List.set_cons_succ]))
          refine det_end ?_
          intro w9 hS
          have hx9 := hS.2
          clear hS
          go_wp2_with fail
          go_returns
          have hk4 := Hkm.out
          subst hk4
          exact ⟨some ⟨b, off + 21 * 2, none⟩, cap - 21, by rw [hcond.out, ← hD.out]; rfl, by omega, (HRr.out _ rfl _).ext hx9, hE.trans hx9⟩
        · have hd1 : decide ((k : Int) < (n : Int)) = false := decide_eq_false (by have := Hq.out; omega)
          have hkn : k = n := by have := Hq.out; omega
          subst hkn
          have hcond : Hid ((if 21 < k then 1 else 0 : UInt8) = 0) := Lib.hid (if_neg hmn)
          have hk0 : Hid (k - 21 = 0) := Lib.hid (by omega)
          have hle : Hid (k ≤ 21) := Lib.hid (by omega)
          clear HR hmn
          go_wp2_with fail
          go_returns
          exact ⟨none, 0, by rw [hcond.out, ← hD.out, hk0.out]; rfl, by omega, by rw [hk0.out]; exact .inl ⟨⟨_, _, rfl⟩, rfl⟩, hE⟩
end Go.Proofs.YtnbcbipigiopbaaGreatDoor
