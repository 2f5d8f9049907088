/-
  The reference's Last: its walk.
-/
import Derived.Test.YtedcibjnnihhfaaDoorLastW
import Derived.Test.YtedcibjnnihhfaaDoorCleanRef
namespace Go.Proofs.YtedcibjnnihhfaaDoor
open Go.RowKit Go.WideShapes Go.Shelf

/-- Is member k the last one of its name, looked at as far as j members behind it? -/
def refB (E : Nat → SmEnt) (k j : Nat) : Bool := !((List.range j).any fun m => sameN (clnN (E k).1.nm) (clnN (E (k + 1 + m)).1.nm))
theorem refB_next (E : Nat → SmEnt) (k j : Nat) : refB E k (j + 1) = (refB E k j && !sameN (clnN (E k).1.nm) (clnN (E (k + 1 + j)).1.nm)) := by
  unfold refB
  rw [List.range_succ, List.any_append]
  simp [Bool.not_or]
theorem refB_all (E : Nat → SmEnt) (n k : Nat) : refB E k (n - k - 1) = !contB E n k := by
  unfold refB contB
  rw [List.any_map]
  congr 1
  congr 1
  funext m
  exact sameN_symm _ _

set_option maxHeartbeats 8000000 in
set_option maxRecDepth 100000 in
theorem refLast_any (E : Nat → SmEnt) (b off n cap : Nat) (w : World) (hm : HasMax w) (h : Ents w b off n E) (hn : n ≤ 45) (hcap : n ≤ cap) (hcm : cap ≤ maxLen) :
    Calls Tryd.prog 19 #[.slice (some ⟨b, off, none⟩) n cap] w (GivesInts (lastL E n n) w) := by
  obtain ⟨i0, hi, hz0, hz1, hz2⟩ := info_parts infoIntL
  unfold maxLen at hcm
  have Hh := Lib.hid h
  clear h
  go_enter Tryd.func19, Tryd.ntmps19
  go_wp2_with fail
  go_loopw [3, 14] (fun v i wr => ∃ k : Nat, k ≤ n ∧ i = .int .i64 (k : Int) ∧ wr.ownsRow w.heap.size 3 1 v (lastL E n k).length ((lastL E n k).map (Value.int .i64)) ∧ Ext w wr) (fun _ i _ => n - (intOf i).toNat)
  case atStart => exact ⟨0, by omega, rfl, World.ownsRow_nil _ _ _ _, Ext.refl _⟩
  case round =>
    obtain ⟨k, hk, rfl, hown, hE⟩ := hrel
    have hkl := lastL_len E n k
    by_cases hlt : k < n
    · have g0 : wr.cell? ⟨b, off + k * 15, none⟩ = some (.string (E k).1.nm) := hE.cell (Hh.out k hlt 0 (by omega))
      have C1 := Lib.hid (refClean_any (E k).1.nm (E k).2.2 wr (hm.ext hE))
      have hz := hE.size
      have hhit := Lib.hid (lastL_hit (E := E) (n := n) (k := k))
      have hmiss := Lib.hid (lastL_miss (E := E) (n := n) (k := k))
      have hall := Lib.hid (refB_all E n k)
      have hnx := Lib.hid (fun j => refB_next E k j)
      have h00 : Hid (refB E k 0 = true) := Lib.hid rfl
      have Hown := Lib.hid hown
      clear hown
      have hcl : Hid (joinV (cleanV ddB (partsB (E k).1.nm)).1 = clnN (E k).1.nm) := Lib.hid rfl
      generalize hpa : clnN (E k).1.nm = pa at *
      clear hpa
      rcases (show (cap = k + 1) ∨ (¬ cap = k + 1) by omega) with hck | hck
      all_goals
        have Hck := Lib.hid hck
        go_wp2_with fail
        refine C1.out.mono ?_; rintro e w1 ⟨rfl, hx1⟩
        rw [hcl.out]
        have hE1 := hE.trans hx1
        go_wp2_with fail
        clear hck
        go_loopw [7, 31] (fun v i W => ∃ j : Nat, j ≤ n - k - 1 ∧ i = .int .i64 (j : Int) ∧ v = .bool (refB E k j) ∧ Ext wr W) (fun _ i _ => n - (intOf i).toNat)
        case atStart => exact ⟨0, by omega, rfl, by rw [h00.out], hx1⟩
        case round =>
          obtain ⟨j, hj, rfl, rfl, hxr⟩ := hrel
          rename World => wW
          have hxw := hE.trans hxr
          have HR := Lib.hid hxr
          clear hxr
          have hzw := hxw.size
          by_cases hlt2 : j < n - (k + 1)
          · first
            | (exfalso; have := Hck.out; omega)
            | focus
              have q0 : wW.cell? ⟨b, off + (k + 1) * 15 + j * 15, none⟩ = some (.string (E (k + 1 + j)).1.nm) := by
                have := hxw.cell (Hh.out (k + 1 + j) (by omega) 0 (by omega))
                rw [show off + (k + 1) * 15 + j * 15 = off + (k + 1 + j) * 15 by omega]
                exact this
              have q1 : wW.cell? ⟨b, off + (k + 1) * 15 + j * 15 + 1, none⟩ = some (.int .u8 (E (k + 1 + j)).1.kd) := by
                have := hxw.cell (Hh.out (k + 1 + j) (by omega) 1 (by omega))
                rw [show off + (k + 1) * 15 + j * 15 = off + (k + 1 + j) * 15 by omega]
                exact this
              have q2 : wW.cell? ⟨b, off + (k + 1) * 15 + j * 15 + 2, none⟩ = some (.int .i64 (E (k + 1 + j)).1.md) := by
                have := hxw.cell (Hh.out (k + 1 + j) (by omega) 2 (by omega))
                rw [show off + (k + 1) * 15 + j * 15 = off + (k + 1 + j) * 15 by omega]
                exact this
              have q3 : wW.cell? ⟨b, off + (k + 1) * 15 + j * 15 + 3, none⟩ = some (.int .i64 (E (k + 1 + j)).1.ui) := by
                have := hxw.cell (Hh.out (k + 1 + j) (by omega) 3 (by omega))
                rw [show off + (k + 1) * 15 + j * 15 = off + (k + 1 + j) * 15 by omega]
                exact this
              have q4 : wW.cell? ⟨b, off + (k + 1) * 15 + j * 15 + 4, none⟩ = some (.int .i64 (E (k + 1 + j)).1.gi) := by
                have := hxw.cell (Hh.out (k + 1 + j) (by omega) 4 (by omega))
                rw [show off + (k + 1) * 15 + j * 15 = off + (k + 1 + j) * 15 by omega]
                exact this
              have q5 : wW.cell? ⟨b, off + (k + 1) * 15 + j * 15 + 5, none⟩ = some (.int .i64 (E (k + 1 + j)).1.sz) := by
                have := hxw.cell (Hh.out (k + 1 + j) (by omega) 5 (by omega))
                rw [show off + (k + 1) * 15 + j * 15 = off + (k + 1 + j) * 15 by omega]
                exact this
              have q6 : wW.cell? ⟨b, off + (k + 1) * 15 + j * 15 + 6, none⟩ = some (.int .i64 (E (k + 1 + j)).1.ts) := by
                have := hxw.cell (Hh.out (k + 1 + j) (by omega) 6 (by omega))
                rw [show off + (k + 1) * 15 + j * 15 = off + (k + 1 + j) * 15 by omega]
                exact this
              have q7 : wW.cell? ⟨b, off + (k + 1) * 15 + j * 15 + 7, none⟩ = some (.int .i64 (E (k + 1 + j)).1.tn) := by
                have := hxw.cell (Hh.out (k + 1 + j) (by omega) 7 (by omega))
                rw [show off + (k + 1) * 15 + j * 15 = off + (k + 1 + j) * 15 by omega]
                exact this
              have q8 : wW.cell? ⟨b, off + (k + 1) * 15 + j * 15 + 8, none⟩ = some (.string (E (k + 1 + j)).1.lk) := by
                have := hxw.cell (Hh.out (k + 1 + j) (by omega) 8 (by omega))
                rw [show off + (k + 1) * 15 + j * 15 = off + (k + 1 + j) * 15 by omega]
                exact this
              have q9 : wW.cell? ⟨b, off + (k + 1) * 15 + j * 15 + 9, none⟩ = some (.string (E (k + 1 + j)).1.us) := by
                have := hxw.cell (Hh.out (k + 1 + j) (by omega) 9 (by omega))
                rw [show off + (k + 1) * 15 + j * 15 = off + (k + 1 + j) * 15 by omega]
                exact this
              have q10 : wW.cell? ⟨b, off + (k + 1) * 15 + j * 15 + 10, none⟩ = some (.string (E (k + 1 + j)).1.gr) := by
                have := hxw.cell (Hh.out (k + 1 + j) (by omega) 10 (by omega))
                rw [show off + (k + 1) * 15 + j * 15 = off + (k + 1 + j) * 15 by omega]
                exact this
              have q11 : wW.cell? ⟨b, off + (k + 1) * 15 + j * 15 + 11, none⟩ = some (.int .i64 (E (k + 1 + j)).1.ma) := by
                have := hxw.cell (Hh.out (k + 1 + j) (by omega) 11 (by omega))
                rw [show off + (k + 1) * 15 + j * 15 = off + (k + 1 + j) * 15 by omega]
                exact this
              have q12 : wW.cell? ⟨b, off + (k + 1) * 15 + j * 15 + 12, none⟩ = some (.int .i64 (E (k + 1 + j)).1.mi) := by
                have := hxw.cell (Hh.out (k + 1 + j) (by omega) 12 (by omega))
                rw [show off + (k + 1) * 15 + j * 15 = off + (k + 1 + j) * 15 by omega]
                exact this
              have q13 : wW.cell? ⟨b, off + (k + 1) * 15 + j * 15 + 13, none⟩ = some (.string (E (k + 1 + j)).1.dt) := by
                have := hxw.cell (Hh.out (k + 1 + j) (by omega) 13 (by omega))
                rw [show off + (k + 1) * 15 + j * 15 = off + (k + 1 + j) * 15 by omega]
                exact this
              have q14 : wW.cell? ⟨b, off + (k + 1) * 15 + j * 15 + 14, none⟩ = some (.slice (E (k + 1 + j)).1.pa (E (k + 1 + j)).1.pn (E (k + 1 + j)).1.pc) := by
                have := hxw.cell (Hh.out (k + 1 + j) (by omega) 14 (by omega))
                rw [show off + (k + 1) * 15 + j * 15 = off + (k + 1 + j) * 15 by omega]
                exact this
              have C2 := Lib.hid (fun W (hW : Ext w W) => refClean_any (E (k + 1 + j)).1.nm (E (k + 1 + j)).2.2 W (hm.ext hW))
              have hx2 : Ext w (wW.alloc (.cells #[.string (E (k + 1 + j)).1.nm, .int .u8 (E (k + 1 + j)).1.kd, .int .i64 (E (k + 1 + j)).1.md, .int .i64 (E (k + 1 + j)).1.ui, .int .i64 (E (k + 1 + j)).1.gi, .int .i64 (E (k + 1 + j)).1.sz, .int .i64 (E (k + 1 + j)).1.ts, .int .i64 (E (k + 1 + j)).1.tn, .string (E (k + 1 + j)).1.lk, .string (E (k + 1 + j)).1.us, .string (E (k + 1 + j)).1.gr, .int .i64 (E (k + 1 + j)).1.ma, .int .i64 (E (k + 1 + j)).1.mi, .string (E (k + 1 + j)).1.dt, .slice (E (k + 1 + j)).1.pa (E (k + 1 + j)).1.pn (E (k + 1 + j)).1.pc] 94)) := hxw.alloc _
              have hcl2 : Hid (joinV (cleanV ddB (partsB (E (k + 1 + j)).1.nm)).1 = clnN (E (k + 1 + j)).1.nm) := Lib.hid rfl
              have hnj := Lib.hid (hnx.out j)
              generalize hpo : clnN (E (k + 1 + j)).1.nm = po at *
              clear hpo
              generalize hqq : refB E k j = qq at *
              clear hqq
              have hs : Hid (sameN pa po = (pa.toList == po.toList)) := Lib.hid rfl
              cases qq with
              | true =>
                go_wp2_with fail
                refine (C2.out _ hx2).mono ?_; rintro e w2 ⟨rfl, hx3⟩
                rw [hcl2.out]
                have hx4 := hx2.trans hx3
                have HR2 := Lib.hid ((HR.out.alloc (.cells #[.string (E (k + 1 + j)).1.nm, .int .u8 (E (k + 1 + j)).1.kd, .int .i64 (E (k + 1 + j)).1.md, .int .i64 (E (k + 1 + j)).1.ui, .int .i64 (E (k + 1 + j)).1.gi, .int .i64 (E (k + 1 + j)).1.sz, .int .i64 (E (k + 1 + j)).1.ts, .int .i64 (E (k + 1 + j)).1.tn, .string (E (k + 1 + j)).1.lk, .string (E (k + 1 + j)).1.us, .string (E (k + 1 + j)).1.gr, .int .i64 (E (k + 1 + j)).1.ma, .int .i64 (E (k + 1 + j)).1.mi, .string (E (k + 1 + j)).1.dt, .slice (E (k + 1 + j)).1.pa (E (k + 1 + j)).1.pn (E (k + 1 + j)).1.pc] 94)).trans hx3)
                clear q0 q1 q2 q3 q4 q5 q6 q7 q8 q9 q10 q11 q12 q13 q14
                go_wp2_with fail
                go_roundw
                case rel => exact ⟨j + 1, by omega, by go_num, by rw [hnj.out, hs.out]; simp, HR2.out⟩
                case measure => simp [intOf]; omega
              | false =>
                go_wp2_with fail
                refine (C2.out _ hx2).mono ?_; rintro e w2 ⟨rfl, hx3⟩
                rw [hcl2.out]
                have hx4 := hx2.trans hx3
                have HR2 := Lib.hid ((HR.out.alloc (.cells #[.string (E (k + 1 + j)).1.nm, .int .u8 (E (k + 1 + j)).1.kd, .int .i64 (E (k + 1 + j)).1.md, .int .i64 (E (k + 1 + j)).1.ui, .int .i64 (E (k + 1 + j)).1.gi, .int .i64 (E (k + 1 + j)).1.sz, .int .i64 (E (k + 1 + j)).1.ts, .int .i64 (E (k + 1 + j)).1.tn, .string (E (k + 1 + j)).1.lk, .string (E (k + 1 + j)).1.us, .string (E (k + 1 + j)).1.gr, .int .i64 (E (k + 1 + j)).1.ma, .int .i64 (E (k + 1 + j)).1.mi, .string (E (k + 1 + j)).1.dt, .slice (E (k + 1 + j)).1.pa (E (k + 1 + j)).1.pn (E (k + 1 + j)).1.pc] 94)).trans hx3)
                clear q0 q1 q2 q3 q4 q5 q6 q7 q8 q9 q10 q11 q12 q13 q14
                go_wp2_with fail
                go_roundw
                case rel => exact ⟨j + 1, by omega, by go_num, by rw [hnj.out]; rfl, HR2.out⟩
                case measure => simp [intOf]; omega
          · obtain rfl : j = n - k - 1 := by omega
            have hcb : Hid (contB E n k = !refB E k (n - k - 1)) := Lib.hid (by rw [hall.out]; simp)
            have hown1 := ext_owns Hown.out HR.out
            have hzr := HR.out.size
            generalize refB E k (n - k - 1) = q at *
            cases q with
            | false =>
              have Hn := Lib.hid hown1
              clear hown1
              go_wp2_with fail
              first | go_big_round | (rw [← Hck.out]; go_big_round) | skip
              refine ⟨?rel, ?measure⟩
              case rel => exact ⟨k + 1, hlt, by go_num, by rw [hmiss.out (by rw [hcb.out]; rfl)]; exact Hn.out, hxw⟩
              case measure => simp [intOf]; omega
            | true =>
              go_wp2_with (at_builtin; (try rw [← Hck.out]); refine wpList_append_own _ rfl _ _ 34 rfl (w.heap.size) 3 i0 (.int .i64 0) 1 8 Tryd.underlying34 hi hz0 hz1 hz2 rfl (by decide) _ _ _ rfl (hown1.alloc _) ⟨wW.heap.size, 0, none⟩ 1 1 [.int .i64 (k : Int)] rfl rfl ?c1 ?c2 ?c3 ?c4 ?c5 ?_)
              case c1 =>
                intro j u hj
                match j, hj with
                | 0, hj => simp at hj; subst hj; simp [Addr.add]
              case c2 => intro u hu; simp at hu; subst hu; rfl
              case c3 => unfold maxLen; omega
              case c4 => omega
              case c5 => simp; omega
              intro v' w2 hown' hgrow _
              have hE2 : Ext w w2 := (hxw.alloc _).ofGrown hgrow (fun j hj => owns_ge hown1 (Nat.le_refl _) j hj)
              have Hn : Hid (w2.ownsRow w.heap.size 3 1 v' (lastL E n (k + 1)).length ((lastL E n (k + 1)).map (Value.int .i64))) := Lib.hid (by rw [hhit.out (by rw [hcb.out]; rfl)]; simpa using hown')
              clear hown1 hown' hgrow
              go_wp2_with fail
              first | go_big_round | (rw [← Hck.out]; go_big_round) | skip
              refine ⟨?rel, ?measure⟩
              case rel => exact ⟨k + 1, hlt, by go_num, Hn.out, hE2⟩
              case measure => simp [intOf]; omega
    · obtain rfl : k = n := by omega
      go_wp2_with fail
      go_ret
      exact ⟨_, rfl, IsInts.ofOwns hown, hE⟩
theorem refLast_none (a : Option Addr) (c : Nat) (E : Nat → SmEnt) (w : World) : Calls Tryd.prog 19 #[.slice a 0 c] w (GivesInts (lastL E 0 0) w) := by
  go_enter Tryd.func19, Tryd.ntmps19
  go_wp2_with fail
  refine wp_loop_rounds 1 ?_
  rw [rounds_succ]
  go_wp2_with fail
  go_ret
  exact ⟨_, rfl, .inl ⟨⟨_, _, rfl⟩, rfl⟩, (by show Below _ _ _; repeat' (first | (with_reducible exact Below.refl _ _) | (with_reducible assumption) | (with_reducible refine belowDrewN ?_ _) | (with_reducible refine Below.alloc ?_ ?_ _) | (with_reducible refine Below.drew ?_) | (with_reducible refine Below.setCell ?_ ?_ _) | go_size))⟩
end Go.Proofs.YtedcibjnnihhfaaDoor
