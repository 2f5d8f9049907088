/-
  The reference's Date.
-/
import Derived.Test.YtbofobakphlpbaaDoorDatesRef
namespace Go.Proofs.YtbofobakphlpbaaDoor
open Go.RowKit

set_option maxHeartbeats 3200000 in
set_option maxRecDepth 100000 in
theorem refDate_pos (a b d s Y M D : Int) (h0 : -1099511627776 ≤ a) (h1 : a ≤ 1099511627776) (d0 : -20000000 ≤ d) (d1 : d ≤ 20000000) (s0 : 0 ≤ s) (s1 : s < 86400) (hat : Hid (Cal.At d Y (M - 1) (D - 1))) (ha : 0 ≤ a) (t2 : a / 86400 = d) (t3 : a % 86400 = s) (w : World) :
    Calls Tryd.prog 39 #[.agg #[.int .i64 a, .int .i64 b]] w fun e w' => e = .returned (.agg #[.int .i64 Y, .int .i64 M, .int .i64 D, .int .i64 (s / 3600), .int .i64 (s / 60 % 60), .int .i64 (s % 60)]) ∧ Ext w w' := by
  go_enter Tryd.func39, Tryd.ntmps39
  go_wp2_with fail
  refine wp_region_det (Stood _) (by kernel_rfl) (by kernel_rfl) (Stood.start _) ?_
  repeat (first
    | (refine det_skip (by rfl) ?_; simp only [Act.put, List.setIfInBounds_toArray, List.set_cons_zero, List.set_cons_succ])
    | (refine det_op (v := ?_) rfl (by rfl) (fun w' hS => ?_) ?_; rotate_left; (focus (obtain ⟨hcl, hxt⟩ := hS; go_wp2_with (fail); (first | refine ⟨?_, rfl, hcl, hxt⟩ | refine ⟨?_, rfl, Stood.of (hxt.trans (by assumption))⟩); (first | (simp only [List.getElem?_toArray, List.getElem?_cons_succ, List.getElem?_cons_zero]; rfl) | rfl))); simp only [Act.put, List.setIfInBounds_toArray, List.set_cons_zero, List.set_cons_succ]))
  refine det_end ?_
  intro w1 hS
  have hx1 := hS.2
  clear hS
  obtain ⟨hcl1, hfz1⟩ := bcell2 hx1
  have hz1 : w.heap.size + 1 < w1.heap.size := by have := hx1.size; simp only [World.size_alloc] at this; omega
  have hb1 : Below w.heap.size w w1 := Ext.trans (((Ext.refl w).alloc _).alloc _) hx1
  have c2 : ∀ j, j < 6 → w1.cell? ⟨w.heap.size + 1, j, none⟩ = some (.int .i64 0) := fun j hj => by
    rw [hcl1 _ _ (by simp)]
    rcases (show j = 0 ∨ j = 1 ∨ j = 2 ∨ j = 3 ∨ j = 4 ∨ j = 5 by omega) with rfl | rfl | rfl | rfl | rfl | rfl <;> simp
  have f2 : ∀ j, w1.frozen? ⟨w.heap.size + 1, j, none⟩ = false := fun j => by rw [hfz1 _ _ (by simp)]; simp
  have HB1 := Lib.hid hb1
  have HC2 := Lib.hid c2
  have HF2 := Lib.hid f2
  have HZ1 := Lib.hid hz1
  clear hx1 hcl1 hfz1 hb1 c2 f2 t2 t3 hz1
  go_wp2_with fail
  go_loop [3, 4] (fun day sec => (day = .int .i64 d ∧ sec = .int .i64 s) ∨ (day = .int .i64 (d + 1) ∧ sec = .int .i64 (s - 86400))) (fun _ sec => if intOf sec < 0 then 1 else 0)
  case atStart => first | exact .inl ⟨rfl, rfl⟩ | exact .inr ⟨rfl, rfl⟩
  case round =>
    rcases hrel with ⟨rfl, rfl⟩ | ⟨rfl, rfl⟩
    · go_wp2_with fail
      go_loop [3, 5] (fun day y => ∃ dd yy : Int, day = .int .i64 dd ∧ y = .int .i64 yy ∧ Cal.dby yy + dd = d ∧ -20000000 ≤ dd ∧ dd ≤ 20000000) (fun day _ => (if intOf day < 0 then 200000 - intOf day else intOf day).toNat)
      case atStart => exact ⟨d, 1970, rfl, rfl, by rw [Cal.dby_start]; omega, by omega, by omega⟩
      case round =>
        obtain ⟨dd, yy, rfl, rfl, hnum, b0, b1⟩ := hrel
        obtain ⟨yb0, yb1⟩ := y_bd (y := yy) (by omega) (by omega)
        have Hnum := Lib.hid hnum
        clear hnum
        by_cases hneg : dd < 0
        · go_wp2_with fail
          go_round
          case rel => exact ⟨dd + 146097, yy - 400, by go_num, by go_num, by have := Hnum.out; rw [Cal.dby_down]; omega, by omega, by omega⟩
          case measure => simp [intOf]; (repeat' split) <;> omega
        · by_cases hbig : 146097 ≤ dd
          · go_wp2_with fail
            go_round
            case rel => exact ⟨dd - 146097, yy + 400, by go_num, by go_num, by have := Hnum.out; rw [Cal.dby_up]; omega, by omega, by omega⟩
            case measure => simp [intOf]; (repeat' split) <;> omega
          · have g0 : 0 ≤ dd := by omega
            have g1 : dd ≤ 146096 := by omega
            clear hneg hbig b0 b1
            go_wp2_with fail
            go_loop [3, 5] (fun day y => ∃ dd yy : Int, day = .int .i64 dd ∧ y = .int .i64 yy ∧ Cal.dby yy + dd = d ∧ 0 ≤ dd ∧ dd ≤ 146096) (fun day _ => (intOf day).toNat)
            case atStart => exact ⟨dd, yy, rfl, rfl, Hnum.out, by omega, by omega⟩
            case round =>
              clear Hnum g0 g1 yb0 yb1
              obtain ⟨dd, yy, rfl, rfl, hnum, g0, g1⟩ := hrel
              obtain ⟨yb0, yb1⟩ := y_bd (y := yy) (by omega) (by omega)
              have Hnum := Lib.hid hnum
              clear hnum
              have l0 : 0 ≤ Cal.lp yy := by rcases Cal.lp_01 yy with h | h <;> omega
              have l1 : Cal.lp yy ≤ 1 := by rcases Cal.lp_01 yy with h | h <;> omega
              have C1 := Lib.hid (fun w => leap_any yy w)
              have C2 := Lib.hid (fun w => oneLp yy w)
              have Hsucc := Lib.hid (Cal.dby_succ yy)
              have Hmt := Lib.hid (fun m hm => mtab_at yy m hm)
              have Hlast := Lib.hid (Cal.dbm_last yy)
              generalize lpB yy = lb at *
              generalize hL : Cal.lp yy = L at *
              have HL := Lib.hid hL
              clear hL
              by_cases hge : 365 + L ≤ dd
              · go_wp2_with (first | ((with_reducible refine (C1.out _).mono ?_); rintro e w9 ⟨rfl, hw9⟩; rw [hw9]; clear hw9 w9) | ((with_reducible refine (C2.out _).mono ?_); rintro e w9 ⟨rfl, hw9⟩; rw [hw9]; clear hw9 w9))
                go_round
                case rel => exact ⟨dd - (365 + L), yy + 1, by go_num, by go_num, by have := Hnum.out; have := Hsucc.out; omega, by omega, by omega⟩
                case measure => simp [intOf]; omega
              · go_wp2_with (first | ((with_reducible refine (C1.out _).mono ?_); rintro e w9 ⟨rfl, hw9⟩; rw [hw9]; clear hw9 w9) | ((with_reducible refine (C2.out _).mono ?_); rintro e w9 ⟨rfl, hw9⟩; rw [hw9]; clear hw9 w9))
                go_loopw [3, 6] (fun day m wr => ∃ (ee : Int) (k : Nat), day = .int .i64 ee ∧ m = .int .i64 (k : Int) ∧ k ≤ 11 ∧ Cal.dbm yy k + ee = dd ∧ 0 ≤ ee ∧ ee ≤ 400 ∧ Ext w1 wr) (fun _ m _ => 12 - (intOf m).toNat)
                case atStart => exact ⟨dd, 0, rfl, rfl, by omega, by show Cal.dbm yy 0 + dd = dd; rw [Cal.dbm_zero]; omega, by omega, by omega, Ext.refl _⟩
                case round =>
                  obtain ⟨ee, k, rfl, rfl, hk, hm, e0, e1, hE⟩ := hrel
                  have hml := Cal.mlen_pos yy k (by omega) (by omega)
                  have hsu := Cal.dbm_succ yy k
                  have hmo := Cal.dbm_mono yy (a := k + 1) (b := 12) (by omega) (by omega) (by omega)
                  have Hend : Hid (¬ ee < Cal.mlen yy k → k + 1 ≤ 11) := Lib.hid (fun h => by
                    rcases (show k + 1 ≤ 11 ∨ k = 11 by omega) with h' | rfl
                    · exact h'
                    · have hla := Hlast.out
                      have e12 : ((11 : Nat) : Int) + 1 = 12 := rfl
                      rw [e12] at hsu
                      omega)
                  have Hm := Lib.hid hm
                  have Hsu := Lib.hid hsu
                  obtain ⟨ml0, ml1⟩ := hml
                  have hq : Hid (ee < Cal.mlen yy k → Y = yy ∧ M = (k : Int) + 1 ∧ D = ee + 1) := Lib.hid (fun h => by
                    have hA : Cal.At d yy k ee := ⟨by have := Hnum.out; omega, by omega, by omega, e0, h⟩
                    obtain ⟨u1, u2, u3⟩ := hat.out.uniq hA
                    exact ⟨u1, by omega, by omega⟩)
                  have hcell : (wr.alloc (.cells (mtab L) 3)).cell? ⟨wr.heap.size, k, none⟩ = some (.int .i64 (Cal.mlen yy k)) := by
                    rw [World.cell?_alloc_at _ _ _ _ rfl]
                    exact Hmt.out k hk
                  unfold mtab at hcell
                  generalize Cal.mlen yy k = V at *
                  clear hm hsu hmo
                  by_cases hlt : ee < V
                  · obtain ⟨u1, u2, u3⟩ := hq.out hlt
                    have U1 := Lib.hid u1
                    have U2 := Lib.hid u2
                    have U3 := Lib.hid u3
                    clear u1 u2 u3
                    have hEa : Ext w1 (wr.alloc (.cells (mtab L) 3)) := hE.alloc _
                    have g0 := hEa.cell (HC2.out 0 (by decide))
                    have g1 := hEa.cell (HC2.out 1 (by decide))
                    have g2 := hEa.cell (HC2.out 2 (by decide))
                    have g3 := hEa.cell (HC2.out 3 (by decide))
                    have g4 := hEa.cell (HC2.out 4 (by decide))
                    have g5 := hEa.cell (HC2.out 5 (by decide))
                    have fr := (hEa.frozens _ 0 HZ1.out).trans (HF2.out 0)
                    have fr1 := (hEa.frozens _ 1 HZ1.out).trans (HF2.out 1)
                    have fr2 := (hEa.frozens _ 2 HZ1.out).trans (HF2.out 2)
                    have fr3 := (hEa.frozens _ 3 HZ1.out).trans (HF2.out 3)
                    have fr4 := (hEa.frozens _ 4 HZ1.out).trans (HF2.out 4)
                    have fr5 := (hEa.frozens _ 5 HZ1.out).trans (HF2.out 5)
                    have HEa := Lib.hid hEa
                    unfold mtab at g0 g1 g2 g3 g4 g5 fr fr1 fr2 fr3 fr4 fr5
                    clear hEa
                    go_wp2_with (first | ((with_reducible refine (C1.out _).mono ?_); rintro e w9 ⟨rfl, hw9⟩; rw [hw9]; clear hw9 w9) | ((with_reducible refine (C2.out _).mono ?_); rintro e w9 ⟨rfl, hw9⟩; rw [hw9]; clear hw9 w9))
                    have hb1 : Below w.heap.size w (wr.alloc (.cells (mtab L) 3)) := Ext.trans HB1.out HEa.out
                    unfold mtab at hb1
                    exact bodyPost_ret (v := .agg #[.int .i64 yy, .int .i64 ((k : Int) + 1), .int .i64 (ee + 1), .int .i64 (s / 3600), .int .i64 (s % 3600 / 60), .int .i64 (s % 60)]) (by simp [results, Tryd.results39, go_sem, g0, g1, g2, g3, g4, g5]) rfl ⟨ret_val (by rw [U1.out, U2.out, U3.out, show s / 60 % 60 = s % 3600 / 60 by omega]), (by show Below _ _ _; repeat' (first | (with_reducible exact Below.refl _ _) | (with_reducible assumption) | (with_reducible refine belowDrewN ?_ _) | (with_reducible refine Below.alloc ?_ ?_ _) | (with_reducible refine Below.drew ?_) | (with_reducible refine Below.setCell ?_ ?_ _) | go_size))⟩
                  · have hk' := Hend.out hlt
                    go_wp2_with (first | ((with_reducible refine (C1.out _).mono ?_); rintro e w9 ⟨rfl, hw9⟩; rw [hw9]; clear hw9 w9) | ((with_reducible refine (C2.out _).mono ?_); rintro e w9 ⟨rfl, hw9⟩; rw [hw9]; clear hw9 w9))
                    go_roundw
                    case rel => exact ⟨ee - V, k + 1, by go_num, by go_num, hk', by show Cal.dbm yy ((k : Int) + 1) + (ee - V) = dd; have := Hm.out; have := Hsu.out; omega, by omega, by omega, hE.alloc _⟩
                    case measure => simp [intOf]; omega
    · go_wp2_with fail
      go_round
      case rel => exact .inl ⟨by go_num, by go_num⟩
      case measure =>
        have m1 : ¬ s < 0 := by omega
        have m2 : s - 86400 < 0 := by omega
        simp only [intOf]
        first
          | (show (if s < 0 then (1 : Nat) else 0) < (if s - 86400 < 0 then 1 else 0); rw [if_neg m1, if_pos m2]; exact Nat.zero_lt_one)
          | (show (if s - 86400 + 86400 < 0 then (1 : Nat) else 0) < (if s - 86400 < 0 then 1 else 0); rw [if_neg (by omega), if_pos m2]; exact Nat.zero_lt_one)

set_option maxHeartbeats 3200000 in
set_option maxRecDepth 100000 in
theorem refDate_low (a b d s Y M D : Int) (_h0 : -1099511627776 ≤ a) (_h1 : a ≤ 1099511627776) (d0 : -20000000 ≤ d) (d1 : d ≤ 20000000) (s0 : 0 ≤ s) (s1 : s < 86400) (hat : Hid (Cal.At d Y (M - 1) (D - 1))) (_ha : a < 0) (_t1 : a.tmod 86400 < 0) (t2 : a.tdiv 86400 = d + 1) (t3 : a.tmod 86400 = s - 86400) (w : World) :
    Calls Tryd.prog 39 #[.agg #[.int .i64 a, .int .i64 b]] w fun e w' => e = .returned (.agg #[.int .i64 Y, .int .i64 M, .int .i64 D, .int .i64 (s / 3600), .int .i64 (s / 60 % 60), .int .i64 (s % 60)]) ∧ Ext w w' := by
  go_enter Tryd.func39, Tryd.ntmps39
  go_wp2_with fail
  refine wp_region_det (Stood _) (by kernel_rfl) (by kernel_rfl) (Stood.start _) ?_
  repeat (first
    | (refine det_skip (by rfl) ?_; simp only [Act.put, List.setIfInBounds_toArray, List.set_cons_zero, List.set_cons_succ])
    | (refine det_op (v := ?_) rfl (by rfl) (fun w' hS => ?_) ?_; rotate_left; (focus (obtain ⟨hcl, hxt⟩ := hS; go_wp2_with (fail); (first | refine ⟨?_, rfl, hcl, hxt⟩ | refine ⟨?_, rfl, Stood.of (hxt.trans (by assumption))⟩); (first | (simp only [List.getElem?_toArray, List.getElem?_cons_succ, List.getElem?_cons_zero]; rfl) | rfl))); simp only [Act.put, List.setIfInBounds_toArray, List.set_cons_zero, List.set_cons_succ]))
  refine det_end ?_
  intro w1 hS
  have hx1 := hS.2
  clear hS
  obtain ⟨hcl1, hfz1⟩ := bcell2 hx1
  have hz1 : w.heap.size + 1 < w1.heap.size := by have := hx1.size; simp only [World.size_alloc] at this; omega
  have hb1 : Below w.heap.size w w1 := Ext.trans (((Ext.refl w).alloc _).alloc _) hx1
  have c2 : ∀ j, j < 6 → w1.cell? ⟨w.heap.size + 1, j, none⟩ = some (.int .i64 0) := fun j hj => by
    rw [hcl1 _ _ (by simp)]
    rcases (show j = 0 ∨ j = 1 ∨ j = 2 ∨ j = 3 ∨ j = 4 ∨ j = 5 by omega) with rfl | rfl | rfl | rfl | rfl | rfl <;> simp
  have f2 : ∀ j, w1.frozen? ⟨w.heap.size + 1, j, none⟩ = false := fun j => by rw [hfz1 _ _ (by simp)]; simp
  have HB1 := Lib.hid hb1
  have HC2 := Lib.hid c2
  have HF2 := Lib.hid f2
  have HZ1 := Lib.hid hz1
  clear hx1 hcl1 hfz1 hb1 c2 f2 t2 t3 hz1
  go_wp2_with fail
  go_loop [3, 4] (fun day sec => (day = .int .i64 d ∧ sec = .int .i64 s) ∨ (day = .int .i64 (d + 1) ∧ sec = .int .i64 (s - 86400))) (fun _ sec => if intOf sec < 0 then 1 else 0)
  case atStart => first | exact .inl ⟨rfl, rfl⟩ | exact .inr ⟨rfl, rfl⟩
  case round =>
    rcases hrel with ⟨rfl, rfl⟩ | ⟨rfl, rfl⟩
    · go_wp2_with fail
      go_loop [3, 5] (fun day y => ∃ dd yy : Int, day = .int .i64 dd ∧ y = .int .i64 yy ∧ Cal.dby yy + dd = d ∧ -20000000 ≤ dd ∧ dd ≤ 20000000) (fun day _ => (if intOf day < 0 then 200000 - intOf day else intOf day).toNat)
      case atStart => exact ⟨d, 1970, rfl, rfl, by rw [Cal.dby_start]; omega, by omega, by omega⟩
      case round =>
        obtain ⟨dd, yy, rfl, rfl, hnum, b0, b1⟩ := hrel
        obtain ⟨yb0, yb1⟩ := y_bd (y := yy) (by omega) (by omega)
        have Hnum := Lib.hid hnum
        clear hnum
        by_cases hneg : dd < 0
        · go_wp2_with fail
          go_round
          case rel => exact ⟨dd + 146097, yy - 400, by go_num, by go_num, by have := Hnum.out; rw [Cal.dby_down]; omega, by omega, by omega⟩
          case measure => simp [intOf]; (repeat' split) <;> omega
        · by_cases hbig : 146097 ≤ dd
          · go_wp2_with fail
            go_round
            case rel => exact ⟨dd - 146097, yy + 400, by go_num, by go_num, by have := Hnum.out; rw [Cal.dby_up]; omega, by omega, by omega⟩
            case measure => simp [intOf]; (repeat' split) <;> omega
          · have g0 : 0 ≤ dd := by omega
            have g1 : dd ≤ 146096 := by omega
            clear hneg hbig b0 b1
            go_wp2_with fail
            go_loop [3, 5] (fun day y => ∃ dd yy : Int, day = .int .i64 dd ∧ y = .int .i64 yy ∧ Cal.dby yy + dd = d ∧ 0 ≤ dd ∧ dd ≤ 146096) (fun day _ => (intOf day).toNat)
            case atStart => exact ⟨dd, yy, rfl, rfl, Hnum.out, by omega, by omega⟩
            case round =>
              clear Hnum g0 g1 yb0 yb1
              obtain ⟨dd, yy, rfl, rfl, hnum, g0, g1⟩ := hrel
              obtain ⟨yb0, yb1⟩ := y_bd (y := yy) (by omega) (by omega)
              have Hnum := Lib.hid hnum
              clear hnum
              have l0 : 0 ≤ Cal.lp yy := by rcases Cal.lp_01 yy with h | h <;> omega
              have l1 : Cal.lp yy ≤ 1 := by rcases Cal.lp_01 yy with h | h <;> omega
              have C1 := Lib.hid (fun w => leap_any yy w)
              have C2 := Lib.hid (fun w => oneLp yy w)
              have Hsucc := Lib.hid (Cal.dby_succ yy)
              have Hmt := Lib.hid (fun m hm => mtab_at yy m hm)
              have Hlast := Lib.hid (Cal.dbm_last yy)
              generalize lpB yy = lb at *
              generalize hL : Cal.lp yy = L at *
              have HL := Lib.hid hL
              clear hL
              by_cases hge : 365 + L ≤ dd
              · go_wp2_with (first | ((with_reducible refine (C1.out _).mono ?_); rintro e w9 ⟨rfl, hw9⟩; rw [hw9]; clear hw9 w9) | ((with_reducible refine (C2.out _).mono ?_); rintro e w9 ⟨rfl, hw9⟩; rw [hw9]; clear hw9 w9))
                go_round
                case rel => exact ⟨dd - (365 + L), yy + 1, by go_num, by go_num, by have := Hnum.out; have := Hsucc.out; omega, by omega, by omega⟩
                case measure => simp [intOf]; omega
              · go_wp2_with (first | ((with_reducible refine (C1.out _).mono ?_); rintro e w9 ⟨rfl, hw9⟩; rw [hw9]; clear hw9 w9) | ((with_reducible refine (C2.out _).mono ?_); rintro e w9 ⟨rfl, hw9⟩; rw [hw9]; clear hw9 w9))
                go_loopw [3, 6] (fun day m wr => ∃ (ee : Int) (k : Nat), day = .int .i64 ee ∧ m = .int .i64 (k : Int) ∧ k ≤ 11 ∧ Cal.dbm yy k + ee = dd ∧ 0 ≤ ee ∧ ee ≤ 400 ∧ Ext w1 wr) (fun _ m _ => 12 - (intOf m).toNat)
                case atStart => exact ⟨dd, 0, rfl, rfl, by omega, by show Cal.dbm yy 0 + dd = dd; rw [Cal.dbm_zero]; omega, by omega, by omega, Ext.refl _⟩
                case round =>
                  obtain ⟨ee, k, rfl, rfl, hk, hm, e0, e1, hE⟩ := hrel
                  have hml := Cal.mlen_pos yy k (by omega) (by omega)
                  have hsu := Cal.dbm_succ yy k
                  have hmo := Cal.dbm_mono yy (a := k + 1) (b := 12) (by omega) (by omega) (by omega)
                  have Hend : Hid (¬ ee < Cal.mlen yy k → k + 1 ≤ 11) := Lib.hid (fun h => by
                    rcases (show k + 1 ≤ 11 ∨ k = 11 by omega) with h' | rfl
                    · exact h'
                    · have hla := Hlast.out
                      have e12 : ((11 : Nat) : Int) + 1 = 12 := rfl
                      rw [e12] at hsu
                      omega)
                  have Hm := Lib.hid hm
                  have Hsu := Lib.hid hsu
                  obtain ⟨ml0, ml1⟩ := hml
                  have hq : Hid (ee < Cal.mlen yy k → Y = yy ∧ M = (k : Int) + 1 ∧ D = ee + 1) := Lib.hid (fun h => by
                    have hA : Cal.At d yy k ee := ⟨by have := Hnum.out; omega, by omega, by omega, e0, h⟩
                    obtain ⟨u1, u2, u3⟩ := hat.out.uniq hA
                    exact ⟨u1, by omega, by omega⟩)
                  have hcell : (wr.alloc (.cells (mtab L) 3)).cell? ⟨wr.heap.size, k, none⟩ = some (.int .i64 (Cal.mlen yy k)) := by
                    rw [World.cell?_alloc_at _ _ _ _ rfl]
                    exact Hmt.out k hk
                  unfold mtab at hcell
                  generalize Cal.mlen yy k = V at *
                  clear hm hsu hmo
                  by_cases hlt : ee < V
                  · obtain ⟨u1, u2, u3⟩ := hq.out hlt
                    have U1 := Lib.hid u1
                    have U2 := Lib.hid u2
                    have U3 := Lib.hid u3
                    clear u1 u2 u3
                    have hEa : Ext w1 (wr.alloc (.cells (mtab L) 3)) := hE.alloc _
                    have g0 := hEa.cell (HC2.out 0 (by decide))
                    have g1 := hEa.cell (HC2.out 1 (by decide))
                    have g2 := hEa.cell (HC2.out 2 (by decide))
                    have g3 := hEa.cell (HC2.out 3 (by decide))
                    have g4 := hEa.cell (HC2.out 4 (by decide))
                    have g5 := hEa.cell (HC2.out 5 (by decide))
                    have fr := (hEa.frozens _ 0 HZ1.out).trans (HF2.out 0)
                    have fr1 := (hEa.frozens _ 1 HZ1.out).trans (HF2.out 1)
                    have fr2 := (hEa.frozens _ 2 HZ1.out).trans (HF2.out 2)
                    have fr3 := (hEa.frozens _ 3 HZ1.out).trans (HF2.out 3)
                    have fr4 := (hEa.frozens _ 4 HZ1.out).trans (HF2.out 4)
                    have fr5 := (hEa.frozens _ 5 HZ1.out).trans (HF2.out 5)
                    have HEa := Lib.hid hEa
                    unfold mtab at g0 g1 g2 g3 g4 g5 fr fr1 fr2 fr3 fr4 fr5
                    clear hEa
                    go_wp2_with (first | ((with_reducible refine (C1.out _).mono ?_); rintro e w9 ⟨rfl, hw9⟩; rw [hw9]; clear hw9 w9) | ((with_reducible refine (C2.out _).mono ?_); rintro e w9 ⟨rfl, hw9⟩; rw [hw9]; clear hw9 w9))
                    have hb1 : Below w.heap.size w (wr.alloc (.cells (mtab L) 3)) := Ext.trans HB1.out HEa.out
                    unfold mtab at hb1
                    exact bodyPost_ret (v := .agg #[.int .i64 yy, .int .i64 ((k : Int) + 1), .int .i64 (ee + 1), .int .i64 (s / 3600), .int .i64 (s % 3600 / 60), .int .i64 (s % 60)]) (by simp [results, Tryd.results39, go_sem, g0, g1, g2, g3, g4, g5]) rfl ⟨ret_val (by rw [U1.out, U2.out, U3.out, show s / 60 % 60 = s % 3600 / 60 by omega]), (by show Below _ _ _; repeat' (first | (with_reducible exact Below.refl _ _) | (with_reducible assumption) | (with_reducible refine belowDrewN ?_ _) | (with_reducible refine Below.alloc ?_ ?_ _) | (with_reducible refine Below.drew ?_) | (with_reducible refine Below.setCell ?_ ?_ _) | go_size))⟩
                  · have hk' := Hend.out hlt
                    go_wp2_with (first | ((with_reducible refine (C1.out _).mono ?_); rintro e w9 ⟨rfl, hw9⟩; rw [hw9]; clear hw9 w9) | ((with_reducible refine (C2.out _).mono ?_); rintro e w9 ⟨rfl, hw9⟩; rw [hw9]; clear hw9 w9))
                    go_roundw
                    case rel => exact ⟨ee - V, k + 1, by go_num, by go_num, hk', by show Cal.dbm yy ((k : Int) + 1) + (ee - V) = dd; have := Hm.out; have := Hsu.out; omega, by omega, by omega, hE.alloc _⟩
                    case measure => simp [intOf]; omega
    · go_wp2_with fail
      go_round
      case rel => exact .inl ⟨by go_num, by go_num⟩
      case measure =>
        have m1 : ¬ s < 0 := by omega
        have m2 : s - 86400 < 0 := by omega
        simp only [intOf]
        first
          | (show (if s < 0 then (1 : Nat) else 0) < (if s - 86400 < 0 then 1 else 0); rw [if_neg m1, if_pos m2]; exact Nat.zero_lt_one)
          | (show (if s - 86400 + 86400 < 0 then (1 : Nat) else 0) < (if s - 86400 < 0 then 1 else 0); rw [if_neg (by omega), if_pos m2]; exact Nat.zero_lt_one)

set_option maxHeartbeats 3200000 in
set_option maxRecDepth 100000 in
theorem refDate_even (a b d s Y M D : Int) (_h0 : -1099511627776 ≤ a) (_h1 : a ≤ 1099511627776) (d0 : -20000000 ≤ d) (d1 : d ≤ 20000000) (s0 : 0 ≤ s) (s1 : s < 86400) (hat : Hid (Cal.At d Y (M - 1) (D - 1))) (_ha : a < 0) (_t1 : 0 ≤ a.tmod 86400) (t2 : a.tdiv 86400 = d) (t3 : a.tmod 86400 = s) (w : World) :
    Calls Tryd.prog 39 #[.agg #[.int .i64 a, .int .i64 b]] w fun e w' => e = .returned (.agg #[.int .i64 Y, .int .i64 M, .int .i64 D, .int .i64 (s / 3600), .int .i64 (s / 60 % 60), .int .i64 (s % 60)]) ∧ Ext w w' := by
  go_enter Tryd.func39, Tryd.ntmps39
  go_wp2_with fail
  refine wp_region_det (Stood _) (by kernel_rfl) (by kernel_rfl) (Stood.start _) ?_
  repeat (first
    | (refine det_skip (by rfl) ?_; simp only [Act.put, List.setIfInBounds_toArray, List.set_cons_zero, List.set_cons_succ])
    | (refine det_op (v := ?_) rfl (by rfl) (fun w' hS => ?_) ?_; rotate_left; (focus (obtain ⟨hcl, hxt⟩ := hS; go_wp2_with (fail); (first | refine ⟨?_, rfl, hcl, hxt⟩ | refine ⟨?_, rfl, Stood.of (hxt.trans (by assumption))⟩); (first | (simp only [List.getElem?_toArray, List.getElem?_cons_succ, List.getElem?_cons_zero]; rfl) | rfl))); simp only [Act.put, List.setIfInBounds_toArray, List.set_cons_zero, List.set_cons_succ]))
  refine det_end ?_
  intro w1 hS
  have hx1 := hS.2
  clear hS
  obtain ⟨hcl1, hfz1⟩ := bcell2 hx1
  have hz1 : w.heap.size + 1 < w1.heap.size := by have := hx1.size; simp only [World.size_alloc] at this; omega
  have hb1 : Below w.heap.size w w1 := Ext.trans (((Ext.refl w).alloc _).alloc _) hx1
  have c2 : ∀ j, j < 6 → w1.cell? ⟨w.heap.size + 1, j, none⟩ = some (.int .i64 0) := fun j hj => by
    rw [hcl1 _ _ (by simp)]
    rcases (show j = 0 ∨ j = 1 ∨ j = 2 ∨ j = 3 ∨ j = 4 ∨ j = 5 by omega) with rfl | rfl | rfl | rfl | rfl | rfl <;> simp
  have f2 : ∀ j, w1.frozen? ⟨w.heap.size + 1, j, none⟩ = false := fun j => by rw [hfz1 _ _ (by simp)]; simp
  have HB1 := Lib.hid hb1
  have HC2 := Lib.hid c2
  have HF2 := Lib.hid f2
  have HZ1 := Lib.hid hz1
  clear hx1 hcl1 hfz1 hb1 c2 f2 _t1 t2 t3 hz1 _ha
  go_wp2_with fail
  go_loop [3, 4] (fun day sec => (day = .int .i64 d ∧ sec = .int .i64 s) ∨ (day = .int .i64 (d + 1) ∧ sec = .int .i64 (s - 86400))) (fun _ sec => if intOf sec < 0 then 1 else 0)
  case atStart => first | exact .inl ⟨rfl, rfl⟩ | exact .inr ⟨rfl, rfl⟩
  case round =>
    rcases hrel with ⟨rfl, rfl⟩ | ⟨rfl, rfl⟩
    · go_wp2_with fail
      go_loop [3, 5] (fun day y => ∃ dd yy : Int, day = .int .i64 dd ∧ y = .int .i64 yy ∧ Cal.dby yy + dd = d ∧ -20000000 ≤ dd ∧ dd ≤ 20000000) (fun day _ => (if intOf day < 0 then 200000 - intOf day else intOf day).toNat)
      case atStart => exact ⟨d, 1970, rfl, rfl, by rw [Cal.dby_start]; omega, by omega, by omega⟩
      case round =>
        obtain ⟨dd, yy, rfl, rfl, hnum, b0, b1⟩ := hrel
        obtain ⟨yb0, yb1⟩ := y_bd (y := yy) (by omega) (by omega)
        have Hnum := Lib.hid hnum
        clear hnum
        by_cases hneg : dd < 0
        · go_wp2_with fail
          go_round
          case rel => exact ⟨dd + 146097, yy - 400, by go_num, by go_num, by have := Hnum.out; rw [Cal.dby_down]; omega, by omega, by omega⟩
          case measure => simp [intOf]; (repeat' split) <;> omega
        · by_cases hbig : 146097 ≤ dd
          · go_wp2_with fail
            go_round
            case rel => exact ⟨dd - 146097, yy + 400, by go_num, by go_num, by have := Hnum.out; rw [Cal.dby_up]; omega, by omega, by omega⟩
            case measure => simp [intOf]; (repeat' split) <;> omega
          · have g0 : 0 ≤ dd := by omega
            have g1 : dd ≤ 146096 := by omega
            clear hneg hbig b0 b1
            go_wp2_with fail
            go_loop [3, 5] (fun day y => ∃ dd yy : Int, day = .int .i64 dd ∧ y = .int .i64 yy ∧ Cal.dby yy + dd = d ∧ 0 ≤ dd ∧ dd ≤ 146096) (fun day _ => (intOf day).toNat)
            case atStart => exact ⟨dd, yy, rfl, rfl, Hnum.out, by omega, by omega⟩
            case round =>
              clear Hnum g0 g1 yb0 yb1
              obtain ⟨dd, yy, rfl, rfl, hnum, g0, g1⟩ := hrel
              obtain ⟨yb0, yb1⟩ := y_bd (y := yy) (by omega) (by omega)
              have Hnum := Lib.hid hnum
              clear hnum
              have l0 : 0 ≤ Cal.lp yy := by rcases Cal.lp_01 yy with h | h <;> omega
              have l1 : Cal.lp yy ≤ 1 := by rcases Cal.lp_01 yy with h | h <;> omega
              have C1 := Lib.hid (fun w => leap_any yy w)
              have C2 := Lib.hid (fun w => oneLp yy w)
              have Hsucc := Lib.hid (Cal.dby_succ yy)
              have Hmt := Lib.hid (fun m hm => mtab_at yy m hm)
              have Hlast := Lib.hid (Cal.dbm_last yy)
              generalize lpB yy = lb at *
              generalize hL : Cal.lp yy = L at *
              have HL := Lib.hid hL
              clear hL
              by_cases hge : 365 + L ≤ dd
              · go_wp2_with (first | ((with_reducible refine (C1.out _).mono ?_); rintro e w9 ⟨rfl, hw9⟩; rw [hw9]; clear hw9 w9) | ((with_reducible refine (C2.out _).mono ?_); rintro e w9 ⟨rfl, hw9⟩; rw [hw9]; clear hw9 w9))
                go_round
                case rel => exact ⟨dd - (365 + L), yy + 1, by go_num, by go_num, by have := Hnum.out; have := Hsucc.out; omega, by omega, by omega⟩
                case measure => simp [intOf]; omega
              · go_wp2_with (first | ((with_reducible refine (C1.out _).mono ?_); rintro e w9 ⟨rfl, hw9⟩; rw [hw9]; clear hw9 w9) | ((with_reducible refine (C2.out _).mono ?_); rintro e w9 ⟨rfl, hw9⟩; rw [hw9]; clear hw9 w9))
                go_loopw [3, 6] (fun day m wr => ∃ (ee : Int) (k : Nat), day = .int .i64 ee ∧ m = .int .i64 (k : Int) ∧ k ≤ 11 ∧ Cal.dbm yy k + ee = dd ∧ 0 ≤ ee ∧ ee ≤ 400 ∧ Ext w1 wr) (fun _ m _ => 12 - (intOf m).toNat)
                case atStart => exact ⟨dd, 0, rfl, rfl, by omega, by show Cal.dbm yy 0 + dd = dd; rw [Cal.dbm_zero]; omega, by omega, by omega, Ext.refl _⟩
                case round =>
                  obtain ⟨ee, k, rfl, rfl, hk, hm, e0, e1, hE⟩ := hrel
                  have hml := Cal.mlen_pos yy k (by omega) (by omega)
                  have hsu := Cal.dbm_succ yy k
                  have hmo := Cal.dbm_mono yy (a := k + 1) (b := 12) (by omega) (by omega) (by omega)
                  have Hend : Hid (¬ ee < Cal.mlen yy k → k + 1 ≤ 11) := Lib.hid (fun h => by
                    rcases (show k + 1 ≤ 11 ∨ k = 11 by omega) with h' | rfl
                    · exact h'
                    · have hla := Hlast.out
                      have e12 : ((11 : Nat) : Int) + 1 = 12 := rfl
                      rw [e12] at hsu
                      omega)
                  have Hm := Lib.hid hm
                  have Hsu := Lib.hid hsu
                  obtain ⟨ml0, ml1⟩ := hml
                  have hq : Hid (ee < Cal.mlen yy k → Y = yy ∧ M = (k : Int) + 1 ∧ D = ee + 1) := Lib.hid (fun h => by
                    have hA : Cal.At d yy k ee := ⟨by have := Hnum.out; omega, by omega, by omega, e0, h⟩
                    obtain ⟨u1, u2, u3⟩ := hat.out.uniq hA
                    exact ⟨u1, by omega, by omega⟩)
                  have hcell : (wr.alloc (.cells (mtab L) 3)).cell? ⟨wr.heap.size, k, none⟩ = some (.int .i64 (Cal.mlen yy k)) := by
                    rw [World.cell?_alloc_at _ _ _ _ rfl]
                    exact Hmt.out k hk
                  unfold mtab at hcell
                  generalize Cal.mlen yy k = V at *
                  clear hm hsu hmo
                  by_cases hlt : ee < V
                  · obtain ⟨u1, u2, u3⟩ := hq.out hlt
                    have U1 := Lib.hid u1
                    have U2 := Lib.hid u2
                    have U3 := Lib.hid u3
                    clear u1 u2 u3
                    have hEa : Ext w1 (wr.alloc (.cells (mtab L) 3)) := hE.alloc _
                    have g0 := hEa.cell (HC2.out 0 (by decide))
                    have g1 := hEa.cell (HC2.out 1 (by decide))
                    have g2 := hEa.cell (HC2.out 2 (by decide))
                    have g3 := hEa.cell (HC2.out 3 (by decide))
                    have g4 := hEa.cell (HC2.out 4 (by decide))
                    have g5 := hEa.cell (HC2.out 5 (by decide))
                    have fr := (hEa.frozens _ 0 HZ1.out).trans (HF2.out 0)
                    have fr1 := (hEa.frozens _ 1 HZ1.out).trans (HF2.out 1)
                    have fr2 := (hEa.frozens _ 2 HZ1.out).trans (HF2.out 2)
                    have fr3 := (hEa.frozens _ 3 HZ1.out).trans (HF2.out 3)
                    have fr4 := (hEa.frozens _ 4 HZ1.out).trans (HF2.out 4)
                    have fr5 := (hEa.frozens _ 5 HZ1.out).trans (HF2.out 5)
                    have HEa := Lib.hid hEa
                    unfold mtab at g0 g1 g2 g3 g4 g5 fr fr1 fr2 fr3 fr4 fr5
                    clear hEa
                    go_wp2_with (first | ((with_reducible refine (C1.out _).mono ?_); rintro e w9 ⟨rfl, hw9⟩; rw [hw9]; clear hw9 w9) | ((with_reducible refine (C2.out _).mono ?_); rintro e w9 ⟨rfl, hw9⟩; rw [hw9]; clear hw9 w9))
                    have hb1 : Below w.heap.size w (wr.alloc (.cells (mtab L) 3)) := Ext.trans HB1.out HEa.out
                    unfold mtab at hb1
                    exact bodyPost_ret (v := .agg #[.int .i64 yy, .int .i64 ((k : Int) + 1), .int .i64 (ee + 1), .int .i64 (s / 3600), .int .i64 (s % 3600 / 60), .int .i64 (s % 60)]) (by simp [results, Tryd.results39, go_sem, g0, g1, g2, g3, g4, g5]) rfl ⟨ret_val (by rw [U1.out, U2.out, U3.out, show s / 60 % 60 = s % 3600 / 60 by omega]), (by show Below _ _ _; repeat' (first | (with_reducible exact Below.refl _ _) | (with_reducible assumption) | (with_reducible refine belowDrewN ?_ _) | (with_reducible refine Below.alloc ?_ ?_ _) | (with_reducible refine Below.drew ?_) | (with_reducible refine Below.setCell ?_ ?_ _) | go_size))⟩
                  · have hk' := Hend.out hlt
                    go_wp2_with (first | ((with_reducible refine (C1.out _).mono ?_); rintro e w9 ⟨rfl, hw9⟩; rw [hw9]; clear hw9 w9) | ((with_reducible refine (C2.out _).mono ?_); rintro e w9 ⟨rfl, hw9⟩; rw [hw9]; clear hw9 w9))
                    go_roundw
                    case rel => exact ⟨ee - V, k + 1, by go_num, by go_num, hk', by show Cal.dbm yy ((k : Int) + 1) + (ee - V) = dd; have := Hm.out; have := Hsu.out; omega, by omega, by omega, hE.alloc _⟩
                    case measure => simp [intOf]; omega
    · go_wp2_with fail
      go_round
      case rel => exact .inl ⟨by go_num, by go_num⟩
      case measure =>
        have m1 : ¬ s < 0 := by omega
        have m2 : s - 86400 < 0 := by omega
        simp only [intOf]
        first
          | (show (if s < 0 then (1 : Nat) else 0) < (if s - 86400 < 0 then 1 else 0); rw [if_neg m1, if_pos m2]; exact Nat.zero_lt_one)
          | (show (if s - 86400 + 86400 < 0 then (1 : Nat) else 0) < (if s - 86400 < 0 then 1 else 0); rw [if_neg (by omega), if_pos m2]; exact Nat.zero_lt_one)

theorem refDate_any (a b : Int) (h0 : -1099511627776 ≤ a) (h1 : a ≤ 1099511627776) (w : World) : Calls Tryd.prog 39 #[.agg #[.int .i64 a, .int .i64 b]] w fun e w' => e = .returned (dateVal a) ∧ Ext w w' := by
  have d0 : -20000000 ≤ dayOf a ∧ dayOf a ≤ 20000000 := by unfold dayOf; omega
  have s0 : 0 ≤ secOf a ∧ secOf a < 86400 := by unfold secOf; omega
  obtain ⟨d0, d1⟩ := d0
  obtain ⟨s0, s1⟩ := s0
  have hat := Lib.hid (Cal.date_at (dayOf a))
  rcases (show 0 ≤ a ∨ (a < 0 ∧ a.tmod 86400 < 0 ∧ a.tdiv 86400 = dayOf a + 1 ∧ a.tmod 86400 = secOf a - 86400) ∨ (a < 0 ∧ 0 ≤ a.tmod 86400 ∧ a.tdiv 86400 = dayOf a ∧ a.tmod 86400 = secOf a) by
    have h3 := Int.tdiv_eq_ediv (a := a) (b := 86400)
    have h4 := Int.tmod_eq_emod (a := a) (b := 86400)
    unfold dayOf secOf
    split at h3 <;> split at h4 <;> simp [show Int.sign 86400 = 1 from rfl] at h3 h4 <;> omega) with ha | ⟨ha, t1, t2, t3⟩ | ⟨ha, t1, t2, t3⟩
  · exact refDate_pos a b _ _ _ _ _ h0 h1 d0 d1 s0 s1 hat ha rfl rfl w
  · exact refDate_low a b _ _ _ _ _ h0 h1 d0 d1 s0 s1 hat ha t1 t2 t3 w
  · exact refDate_even a b _ _ _ _ _ h0 h1 d0 d1 s0 s1 hat ha t1 t2 t3 w
end Go.Proofs.YtbofobakphlpbaaDoor
