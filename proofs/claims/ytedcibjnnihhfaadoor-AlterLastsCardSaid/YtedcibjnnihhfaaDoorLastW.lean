/-
  alter.Last: its walk.
-/
import Derived.Test.YtedcibjnnihhfaaDoorLastP
namespace Go.Proofs.YtedcibjnnihhfaaDoor
open Go.RowKit Go.WideShapes Go.Shelf

/-- Numbers come back; nothing old has turned. -/
def GivesInts (l : List Int) (w : World) (e : Ending) (w' : World) : Prop := ∃ v, e = .returned v ∧ IsInts w' v l ∧ Ext w w'

set_option maxHeartbeats 4000000 in
set_option maxRecDepth 100000 in
theorem last_any (E : Nat → SmEnt) (b off n cap : Nat) (w : World) (hm : HasMax w) (h : Ents w b off n E) (hn : n ≤ 45) (hcap : n ≤ cap) (hcm : cap ≤ maxLen) :
    Calls Tryd.prog 18 #[.slice (some ⟨b, off, none⟩) n cap] w (GivesInts (lastL E n n) w) := by
  obtain ⟨i0, hi, hz0, hz1, hz2⟩ := info_parts infoIntL
  unfold maxLen at hcm
  have Hh := Lib.hid h
  clear h
  go_enter Tryd.func18, Tryd.ntmps18
  go_wp2_with fail
  go_loopw [3, 8] (fun v i wr => ∃ k : Nat, k ≤ n ∧ i = .int .i64 (k : Int) ∧ wr.ownsRow w.heap.size 3 1 v (lastL E n k).length ((lastL E n k).map (Value.int .i64)) ∧ Ext w wr) (fun _ i _ => n - (intOf i).toNat)
  case atStart => exact ⟨0, by omega, rfl, World.ownsRow_nil _ _ _ _, Ext.refl _⟩
  case round =>
    obtain ⟨k, hk, rfl, hown, hE⟩ := hrel
    have hkl := lastL_len E n k
    by_cases hlt : k < n
    · have g0 : wr.cell? ⟨b, off + k * 15, none⟩ = some (.string (E k).1.nm) := hE.cell (Hh.out k hlt 0 (by omega))
      have g1 : wr.cell? ⟨b, off + k * 15 + 1, none⟩ = some (.int .u8 (E k).1.kd) := hE.cell (Hh.out k hlt 1 (by omega))
      have g2 : wr.cell? ⟨b, off + k * 15 + 2, none⟩ = some (.int .i64 (E k).1.md) := hE.cell (Hh.out k hlt 2 (by omega))
      have g3 : wr.cell? ⟨b, off + k * 15 + 3, none⟩ = some (.int .i64 (E k).1.ui) := hE.cell (Hh.out k hlt 3 (by omega))
      have g4 : wr.cell? ⟨b, off + k * 15 + 4, none⟩ = some (.int .i64 (E k).1.gi) := hE.cell (Hh.out k hlt 4 (by omega))
      have g5 : wr.cell? ⟨b, off + k * 15 + 5, none⟩ = some (.int .i64 (E k).1.sz) := hE.cell (Hh.out k hlt 5 (by omega))
      have g6 : wr.cell? ⟨b, off + k * 15 + 6, none⟩ = some (.int .i64 (E k).1.ts) := hE.cell (Hh.out k hlt 6 (by omega))
      have g7 : wr.cell? ⟨b, off + k * 15 + 7, none⟩ = some (.int .i64 (E k).1.tn) := hE.cell (Hh.out k hlt 7 (by omega))
      have g8 : wr.cell? ⟨b, off + k * 15 + 8, none⟩ = some (.string (E k).1.lk) := hE.cell (Hh.out k hlt 8 (by omega))
      have g9 : wr.cell? ⟨b, off + k * 15 + 9, none⟩ = some (.string (E k).1.us) := hE.cell (Hh.out k hlt 9 (by omega))
      have g10 : wr.cell? ⟨b, off + k * 15 + 10, none⟩ = some (.string (E k).1.gr) := hE.cell (Hh.out k hlt 10 (by omega))
      have g11 : wr.cell? ⟨b, off + k * 15 + 11, none⟩ = some (.int .i64 (E k).1.ma) := hE.cell (Hh.out k hlt 11 (by omega))
      have g12 : wr.cell? ⟨b, off + k * 15 + 12, none⟩ = some (.int .i64 (E k).1.mi) := hE.cell (Hh.out k hlt 12 (by omega))
      have g13 : wr.cell? ⟨b, off + k * 15 + 13, none⟩ = some (.string (E k).1.dt) := hE.cell (Hh.out k hlt 13 (by omega))
      have g14 : wr.cell? ⟨b, off + k * 15 + 14, none⟩ = some (.slice (E k).1.pa (E k).1.pn (E k).1.pc) := hE.cell (Hh.out k hlt 14 (by omega))
      have hbox := Lib.hid (ent_new (E k).1 wr)
      have hE0 : Ext w (wr.alloc (.cells #[.string (E k).1.nm, .int .u8 (E k).1.kd, .int .i64 (E k).1.md, .int .i64 (E k).1.ui, .int .i64 (E k).1.gi, .int .i64 (E k).1.sz, .int .i64 (E k).1.ts, .int .i64 (E k).1.tn, .string (E k).1.lk, .string (E k).1.us, .string (E k).1.gr, .int .i64 (E k).1.ma, .int .i64 (E k).1.mi, .string (E k).1.dt, .slice (E k).1.pa (E k).1.pn (E k).1.pc] 94)) := hE.alloc _
      have C1 := Lib.hid (fun (off' cap' : Nat) (hoff : k + 1 < n → off' = off + (k + 1) * 15) W (hW : Ext w W) (hg : EntAt W wr.heap.size (E k).1) => cont_any E b off n k hlt hn off' cap' hoff wr.heap.size W (hm.ext hW) (Hh.out.ext hW) hg)
      have hz := hE.size
      have hhit := Lib.hid (lastL_hit (E := E) (n := n) (k := k))
      have hmiss := Lib.hid (lastL_miss (E := E) (n := n) (k := k))
      have Hown := Lib.hid (hown.alloc (.cells #[.string (E k).1.nm, .int .u8 (E k).1.kd, .int .i64 (E k).1.md, .int .i64 (E k).1.ui, .int .i64 (E k).1.gi, .int .i64 (E k).1.sz, .int .i64 (E k).1.ts, .int .i64 (E k).1.tn, .string (E k).1.lk, .string (E k).1.us, .string (E k).1.gr, .int .i64 (E k).1.ma, .int .i64 (E k).1.mi, .string (E k).1.dt, .slice (E k).1.pa (E k).1.pn (E k).1.pc] 94))
      clear hown
      generalize contB E n k = q at *
      have hoff : ∀ off', off' = (if cap = k + 1 then off else off + (k + 1) * 15) → k + 1 < n → off' = off + (k + 1) * 15 := fun off' h h2 => by rw [h, if_neg (by omega)]
      have Hoff := Lib.hid hoff
      clear hoff
      rcases (show (cap = k + 1) ∨ (¬ cap = k + 1) by omega) with hck | hck
      all_goals
        have Hck := Lib.hid hck
        go_wp2_with fail
        refine (C1.out _ _ (Hoff.out _ (by first | (rw [if_pos Hck.out]; done) | (rw [if_neg Hck.out]; done))) _ hE0 hbox.out).mono ?_; rintro e w1 ⟨rfl, hx1⟩
        clear hck g0 g1 g2 g3 g4 g5 g6 g7 g8 g9 g10 g11 g12 g13 g14
        have hE1 := hE0.trans hx1
        have hown1 := ext_owns Hown.out hx1
        have hz1' := hE1.size
        cases q with
        | true =>
          have Hn := Lib.hid hown1
          clear hown1
          go_wp2_with fail
          go_roundw
          case rel => exact ⟨k + 1, hlt, by go_num, by rw [hmiss.out (by first | trivial | rfl)]; exact Hn.out, hE1⟩
          case measure => simp [intOf]; omega
        | false =>
          go_wp2_with (at_builtin; refine wpList_append_own _ rfl _ _ 34 rfl (w.heap.size) 3 i0 (.int .i64 0) 1 8 Tryd.underlying34 hi hz0 hz1 hz2 rfl (by decide) _ _ _ rfl (hown1.alloc _) ⟨w1.heap.size, 0, none⟩ 1 1 [.int .i64 (k : Int)] rfl rfl ?c1 ?c2 ?c3 ?c4 ?c5 ?_)
          case c1 =>
            intro j u hj
            match j, hj with
            | 0, hj => simp at hj; subst hj; simp [Addr.add]
          case c2 => intro u hu; simp at hu; subst hu; rfl
          case c3 => unfold maxLen; omega
          case c4 => omega
          case c5 => simp; omega
          intro v' w2 hown' hgrow _
          have hE2 : Ext w w2 := (hE1.alloc _).ofGrown hgrow (fun j hj => owns_ge hown1 (Nat.le_refl _) j hj)
          have Hn : Hid (w2.ownsRow w.heap.size 3 1 v' (lastL E n (k + 1)).length ((lastL E n (k + 1)).map (Value.int .i64))) := Lib.hid (by rw [hhit.out (by first | trivial | rfl)]; simpa using hown')
          clear hown1 hown' hgrow
          go_wp2_with fail
          go_roundw
          case rel => exact ⟨k + 1, hlt, by go_num, Hn.out, hE2⟩
          case measure => simp [intOf]; omega
    · obtain rfl : k = n := by omega
      go_wp2_with fail
      go_ret
      exact ⟨_, rfl, IsInts.ofOwns hown, hE⟩

theorem last_none (a : Option Addr) (c : Nat) (E : Nat → SmEnt) (w : World) : Calls Tryd.prog 18 #[.slice a 0 c] w (GivesInts (lastL E 0 0) w) := by
  go_enter Tryd.func18, Tryd.ntmps18
  go_wp2_with fail
  refine wp_loop_rounds 1 ?_
  rw [rounds_succ]
  go_wp2_with fail
  go_ret
  exact ⟨_, rfl, .inl ⟨⟨_, _, rfl⟩, rfl⟩, (by show Below _ _ _; repeat' (first | (with_reducible exact Below.refl _ _) | (with_reducible assumption) | (with_reducible refine belowDrewN ?_ _) | (with_reducible refine Below.alloc ?_ ?_ _) | (with_reducible refine Below.drew ?_) | (with_reducible refine Below.setCell ?_ ?_ _) | go_size))⟩
end Go.Proofs.YtedcibjnnihhfaaDoor
