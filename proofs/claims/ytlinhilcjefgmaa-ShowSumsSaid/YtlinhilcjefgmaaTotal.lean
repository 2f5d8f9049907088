/-
  How many members of each kind there are, and all their sizes: show.Total and the law's own loop.
-/
import Derived.Test.YtlinhilcjefgmaaEnt
namespace Go.Proofs.Ytlinhilcjefgmaa
open Go.RowKit Go.WideShapes

/-- How many of the first k members are of kind 48 + d. -/
def cntE (E : Nat → Ent) (d : Int) : Nat → Int
  | 0 => 0
  | k + 1 => cntE E d k + if (E k).kd = 48 + d then 1 else 0
theorem cntE_lo (E : Nat → Ent) (d : Int) : ∀ k, 0 ≤ cntE E d k
  | 0 => Int.le_refl _
  | k + 1 => by have := cntE_lo E d k; simp only [cntE]; split <;> omega
theorem cntE_hi (E : Nat → Ent) (d : Int) : ∀ k : Nat, cntE E d k ≤ k
  | 0 => Int.le_refl _
  | k + 1 => by have := cntE_hi E d k; simp only [cntE]; split <;> omega
theorem cntE_hit {E : Nat → Ent} {d : Int} {k : Nat} (h : (E k).kd = 48 + d) : cntE E d (k + 1) = cntE E d k + 1 := by simp only [cntE]; rw [if_pos h]
theorem cntE_miss {E : Nat → Ent} {d : Int} {k : Nat} (h : ¬ (E k).kd = 48 + d) : cntE E d (k + 1) = cntE E d k := by simp only [cntE]; rw [if_neg h]; omega
/-- The sum of the first k sizes, as Go adds them. -/
def sizE (E : Nat → Ent) : Nat → Int
  | 0 => 0
  | k + 1 => wrap64 (sizE E k + (E k).sz)

/-- Block b holds seven numbers. -/
def Seven (w : World) (b : Nat) (c : Int → Int) : Prop :=
  (w.cell? ⟨b, 0, none⟩ = some (.int .i64 (c 0)) ∧ w.cell? ⟨b, 1, none⟩ = some (.int .i64 (c 1)) ∧ w.cell? ⟨b, 2, none⟩ = some (.int .i64 (c 2)) ∧ w.cell? ⟨b, 3, none⟩ = some (.int .i64 (c 3)) ∧
   w.cell? ⟨b, 4, none⟩ = some (.int .i64 (c 4)) ∧ w.cell? ⟨b, 5, none⟩ = some (.int .i64 (c 5)) ∧ w.cell? ⟨b, 6, none⟩ = some (.int .i64 (c 6))) ∧
  (w.frozen? ⟨b, 0, none⟩ = false ∧ w.frozen? ⟨b, 1, none⟩ = false ∧ w.frozen? ⟨b, 2, none⟩ = false ∧ w.frozen? ⟨b, 3, none⟩ = false ∧ w.frozen? ⟨b, 4, none⟩ = false ∧ w.frozen? ⟨b, 5, none⟩ = false ∧ w.frozen? ⟨b, 6, none⟩ = false)
theorem Seven.ext {w w' : World} {b : Nat} {c : Int → Int} (h : Seven w b c) (hE : Ext w w') : Seven w' b c := by
  have hb : b < w.heap.size := World.block_lt_of_cell? w _ h.1.1
  have hf := hE.frozens b
  exact ⟨⟨hE.cell h.1.1, hE.cell h.1.2.1, hE.cell h.1.2.2.1, hE.cell h.1.2.2.2.1, hE.cell h.1.2.2.2.2.1, hE.cell h.1.2.2.2.2.2.1, hE.cell h.1.2.2.2.2.2.2⟩,
    by rw [hf 0 hb, hf 1 hb, hf 2 hb, hf 3 hb, hf 4 hb, hf 5 hb, hf 6 hb]; exact h.2⟩

theorem Seven.congr {w : World} {b : Nat} {c c' : Int → Int} (h : Seven w b c) (e : ∀ d : Int, 0 ≤ d → d ≤ 6 → c' d = c d) : Seven w b c' := by
  unfold Seven at *
  rw [e 0 (by omega) (by omega), e 1 (by omega) (by omega), e 2 (by omega) (by omega), e 3 (by omega) (by omega), e 4 (by omega) (by omega), e 5 (by omega) (by omega), e 6 (by omega) (by omega)]
  exact h
theorem Seven.set {w : World} {b : Nat} {c : Int → Int} (h : Seven w b c) (d : Nat) (hd : d ≤ 6) (x : Int) : Seven (w.setCell ⟨b, d, none⟩ (.int .i64 x)) b (fun i => if i = (d : Int) then x else c i) := by
  obtain ⟨⟨h0, h1, h2, h3, h4, h5, h6⟩, hf⟩ := h
  rcases (show d = 0 ∨ d = 1 ∨ d = 2 ∨ d = 3 ∨ d = 4 ∨ d = 5 ∨ d = 6 by omega) with rfl | rfl | rfl | rfl | rfl | rfl | rfl
  all_goals
    refine ⟨?_, by simp only [World.frozen?_setCell]; exact hf⟩
    simp [World.cell?_setCell_same', World.cell?_setCell_other, h0, h1, h2, h3, h4, h5, h6]
theorem Seven.cell {w : World} {b : Nat} {c : Int → Int} (h : Seven w b c) (d : Nat) (hd : d ≤ 6) : w.cell? ⟨b, d, none⟩ = some (.int .i64 (c d)) := by
  obtain ⟨⟨h0, h1, h2, h3, h4, h5, h6⟩, hf⟩ := h
  rcases (show d = 0 ∨ d = 1 ∨ d = 2 ∨ d = 3 ∨ d = 4 ∨ d = 5 ∨ d = 6 by omega) with rfl | rfl | rfl | rfl | rfl | rfl | rfl <;> assumption
theorem Seven.free {w : World} {b : Nat} {c : Int → Int} (h : Seven w b c) (d : Nat) (hd : d ≤ 6) : w.frozen? ⟨b, d, none⟩ = false := by
  obtain ⟨_, h0, h1, h2, h3, h4, h5, h6⟩ := h
  rcases (show d = 0 ∨ d = 1 ∨ d = 2 ∨ d = 3 ∨ d = 4 ∨ d = 5 ∨ d = 6 by omega) with rfl | rfl | rfl | rfl | rfl | rfl | rfl <;> assumption
theorem Seven.other {w : World} {b b' : Nat} {c : Int → Int} (h : Seven w b c) (hn : b ≠ b') (d : Nat) (x : Value) : Seven (w.setCell ⟨b', d, none⟩ x) b c := by
  obtain ⟨⟨h0, h1, h2, h3, h4, h5, h6⟩, hf⟩ := h
  have hn' : b' ≠ b := fun e => hn e.symm
  refine ⟨?_, by simp only [World.frozen?_setCell]; exact hf⟩
  simp [World.cell?_setCell_other, h0, h1, h2, h3, h4, h5, h6]
/-- Between two rounds. -/
def TotRel (w : World) (n : Nat) (E : Nat → Ent) (s i : Value) (wr : World) : Prop :=
  ∃ k : Nat, k ≤ n ∧ i = .int .i64 (k : Int) ∧ s = .int .i64 (sizE E k) ∧ Seven wr (w.heap.size + 1) (fun d => cntE E d k) ∧ Seven wr w.heap.size (fun _ => 0) ∧ Ext w wr ∧ w.heap.size + 1 < wr.heap.size

def totV (E : Nat → Ent) (n : Nat) : Value := .agg #[.int .i64 (cntE E 0 n), .int .i64 (cntE E 1 n), .int .i64 (cntE E 2 n), .int .i64 (cntE E 3 n), .int .i64 (cntE E 4 n), .int .i64 (cntE E 5 n), .int .i64 (cntE E 6 n)]

set_option maxHeartbeats 4000000 in
set_option maxRecDepth 100000 in
theorem total_any (w : World) (v : Value) (n : Nat) (E : Nat → Ent) (h : IsEnts w v n E) : Calls Try.prog 9 #[v] w fun x w' => x = .returned (.tuple #[totV E n, .int .i64 (sizE E n)]) ∧ Ext w w' := by
  rcases h with ⟨⟨a, c, rfl⟩, rfl⟩ | ⟨b, off, cap, rfl, hn, hc⟩
  · go_enter Try.func9, Try.ntmps9
    go_wp2_with fail
    refine wp_loop_rounds 1 ?_
    rw [rounds_succ]
    go_wp2_with fail
    exact bodyPost_ret (v := .tuple #[totV E 0, .int .i64 (sizE E 0)]) (by simp [results, Try.results9, go_sem]; exact ⟨rfl, rfl⟩) rfl ⟨rfl, (by show Below _ _ _; repeat' (first | (with_reducible exact Below.refl _ _) | (with_reducible assumption) | (with_reducible refine belowDrewN ?_ _) | (with_reducible refine Below.alloc ?_ ?_ _) | (with_reducible refine Below.drew ?_) | (with_reducible refine Below.setCell ?_ ?_ _) | go_size))⟩
  · go_enter Try.func9, Try.ntmps9
    go_wp2_with fail
    go_loopw [5, 10] (fun s i wr => TotRel w n E s i wr) (fun _ i _ => n - (intOf i).toNat)
    case atStart => exact ⟨0, by omega, rfl, rfl, ⟨by simp [cntE], by simp⟩, ⟨by simp, by simp⟩, ((Ext.refl w).alloc _).alloc _, by simp⟩
    case round =>
      obtain ⟨k, hk, rfl, rfl, hS, hR, hE, hz⟩ := hrel
      have HR := Lib.hid hR
      by_cases hlt : k < n
      · obtain ⟨ok, hg⟩ := hc k hlt
        have g0 : wr.cell? ⟨b, off + k * 15, none⟩ = some (.string (E k).nm) := hE.cell (hg 0 (by omega))
        have g1 : wr.cell? ⟨b, off + k * 15 + 1, none⟩ = some (.int .u8 (E k).kd) := hE.cell (hg 1 (by omega))
        have g2 : wr.cell? ⟨b, off + k * 15 + 2, none⟩ = some (.int .i64 (E k).md) := hE.cell (hg 2 (by omega))
        have g3 : wr.cell? ⟨b, off + k * 15 + 3, none⟩ = some (.int .i64 (E k).ui) := hE.cell (hg 3 (by omega))
        have g4 : wr.cell? ⟨b, off + k * 15 + 4, none⟩ = some (.int .i64 (E k).gi) := hE.cell (hg 4 (by omega))
        have g5 : wr.cell? ⟨b, off + k * 15 + 5, none⟩ = some (.int .i64 (E k).sz) := hE.cell (hg 5 (by omega))
        have g6 : wr.cell? ⟨b, off + k * 15 + 6, none⟩ = some (.int .i64 (E k).ts) := hE.cell (hg 6 (by omega))
        have g7 : wr.cell? ⟨b, off + k * 15 + 7, none⟩ = some (.int .i64 (E k).tn) := hE.cell (hg 7 (by omega))
        have g8 : wr.cell? ⟨b, off + k * 15 + 8, none⟩ = some (.string (E k).lk) := hE.cell (hg 8 (by omega))
        have g9 : wr.cell? ⟨b, off + k * 15 + 9, none⟩ = some (.string (E k).us) := hE.cell (hg 9 (by omega))
        have g10 : wr.cell? ⟨b, off + k * 15 + 10, none⟩ = some (.string (E k).gr) := hE.cell (hg 10 (by omega))
        have g11 : wr.cell? ⟨b, off + k * 15 + 11, none⟩ = some (.int .i64 (E k).ma) := hE.cell (hg 11 (by omega))
        have g12 : wr.cell? ⟨b, off + k * 15 + 12, none⟩ = some (.int .i64 (E k).mi) := hE.cell (hg 12 (by omega))
        have g13 : wr.cell? ⟨b, off + k * 15 + 13, none⟩ = some (.string (E k).dt) := hE.cell (hg 13 (by omega))
        have g14 : wr.cell? ⟨b, off + k * 15 + 14, none⟩ = some (.slice (E k).pa (E k).pn (E k).pc) := hE.cell (hg 14 (by omega))
        have Hc := Lib.hid hc
        have Hg := Lib.hid hg
        have hs1 : Hid (sizE E (k + 1) = wrap64 (sizE E k + (E k).sz)) := Lib.hid rfl
        have k0 := ok.kd0
        have k1 := ok.kd1
        clear hc hg
        rcases (show ((E k).kd = 48 ∨ (E k).kd = 49 ∨ (E k).kd = 50 ∨ (E k).kd = 51 ∨ (E k).kd = 52 ∨ (E k).kd = 53 ∨ (E k).kd = 54) ∨ ((E k).kd < 48 ∨ 54 < (E k).kd) by omega) with hkd | hkd
        · obtain ⟨d, hd, hd6⟩ : ∃ d : Nat, (E k).kd = 48 + (d : Int) ∧ d ≤ 6 := ⟨((E k).kd - 48).toNat, by omega, by omega⟩
          have HS := Lib.hid hS
          have cd := hS.cell d hd6
          have fd := hS.free d hd6
          have l0 := cntE_lo E d k
          have u0 := cntE_hi E d k
          have hno : Hid (∀ i : Int, 0 ≤ i → i ≤ 6 → cntE E i (k + 1) = if i = (d : Int) then cntE E d k + 1 else cntE E i k) := Lib.hid (fun i i0 i1 => by split; subst i; exact cntE_hit (by omega); exact cntE_miss (by omega))
          rw [hd] at g1
          have q1 : decide ((48 : Int) ≤ 48 + (d : Int)) = true := decide_eq_true (by omega)
          have q2 : decide (48 + (d : Int) ≤ 54) = true := decide_eq_true (by omega)
          have e1 : (48 + (d : Int) - 48) = d := by omega
          clear hkd hR hS hd
          go_wp2_with fail
          go_roundw
          case rel => exact ⟨k + 1, hlt, by go_num, by rw [hs1.out], ((HS.out.set d hd6 _).ext ((Ext.refl _).alloc _)).congr hno.out, (HR.out.other (by omega) _ _).ext ((Ext.refl _).alloc _), (hE.setCell (by simp) _).alloc _, by simp; omega⟩
          case measure => simp [intOf]; omega
        · have hno : Hid (∀ d : Int, 0 ≤ d → d ≤ 6 → cntE E d (k + 1) = cntE E d k) := Lib.hid (fun d d0 d1 => cntE_miss (by omega))
          have HS := Lib.hid hS
          clear hS hR
          rcases (show (decide (48 ≤ (E k).kd) = false) ∨ (decide (48 ≤ (E k).kd) = true ∧ decide ((E k).kd ≤ 54) = false) by simp; omega) with q1 | ⟨q1, q2⟩
          all_goals
            clear hkd
            go_wp2_with fail
            go_roundw
            case rel => exact ⟨k + 1, hlt, by go_num, by rw [hs1.out], (HS.out.ext ((Ext.refl _).alloc _)).congr hno.out, HR.out.ext ((Ext.refl _).alloc _), hE.alloc _, by simp; omega⟩
            case measure => simp [intOf]; omega
      · obtain rfl : k = n := by omega
        obtain ⟨⟨c0, c1, c2, c3, c4, c5, c6⟩, _⟩ := hS
        obtain ⟨⟨d0, d1, d2, d3, d4, d5, d6⟩, f0, f1, f2, f3, f4, f5, f6⟩ := hR
        have hz0 : w.heap.size < wr.heap.size := by omega
        have hE' : Below w.heap.size w wr := hE
        go_wp2_with fail
        exact bodyPost_ret (v := .tuple #[totV E k, .int .i64 (sizE E k)]) (by simp [results, Try.results9, go_sem, d0, d1, d2, d3, d4, d5, d6] <;> first | rfl | exact ⟨rfl, rfl⟩) rfl ⟨rfl, (by show Below _ _ _; repeat' (first | (with_reducible exact Below.refl _ _) | (with_reducible assumption) | (with_reducible refine belowDrewN ?_ _) | (with_reducible refine Below.alloc ?_ ?_ _) | (with_reducible refine Below.drew ?_) | (with_reducible refine Below.setCell ?_ ?_ _) | go_size))⟩
end Go.Proofs.Ytlinhilcjefgmaa
