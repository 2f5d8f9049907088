/-
  The reference's VolumeJoin: its walk. No conditions but the arguments' bounds.
-/
import Derived.Test.YtiiaoagobjgkiaaGreatDoorVjB
import Derived.Test.YtiiaoagobjgkiaaGreatDoorVjL
import Derived.Test.YtiiaoagobjgkiaaGreatDoorDetS
import Derived.Test.YtiiaoagobjgkiaaGreatDoorVjH
namespace Go.Proofs.YtiiaoagobjgkiaaGreatDoor
open Go.RowKit Go.WideShapes

theorem bareQ_any (e : Int) (w : World) : Calls Tryz.prog 36 #[.int .i64 e] w fun x w' => x = .returned (.agg #[.int .i64 e, .int .i64 (-1)]) ∧ Ext w w' := by
  go_enter Tryz.func36, Tryz.ntmps36
  go_wp2_with fail
  exact bodyPost_ret (v := .agg #[.int .i64 e, .int .i64 (-1)]) (by simp [results, Tryz.results36, go_sem]) rfl ⟨rfl, (by show Below _ _ _; repeat' (first | (with_reducible exact Below.refl _ _) | (with_reducible assumption) | (with_reducible refine belowDrewN ?_ _) | (with_reducible refine Below.alloc ?_ ?_ _) | (with_reducible refine Below.drew ?_) | (with_reducible refine Below.setCell ?_ ?_ _) | go_size))⟩
theorem goodQ_any (w : World) : Calls Tryz.prog 40 #[] w fun x w' => x = .returned (.agg #[.int .i64 0, .int .i64 (-1)]) ∧ Ext w w' := by
  go_enter Tryz.func40, Tryz.ntmps40
  go_wp2_with fail
  exact bodyPost_ret (v := .agg #[.int .i64 0, .int .i64 (-1)]) (by simp [results, Tryz.results40, go_sem]) rfl ⟨rfl, (by show Below _ _ _; repeat' (first | (with_reducible exact Below.refl _ _) | (with_reducible assumption) | (with_reducible refine belowDrewN ?_ _) | (with_reducible refine Below.alloc ?_ ?_ _) | (with_reducible refine Below.drew ?_) | (with_reducible refine Below.setCell ?_ ?_ _) | go_size))⟩
theorem res_boxQ {w W : World} {a b : Int} {t : TypeId} (h : Ext (w.alloc (.cells #[.int .i64 a, .int .i64 b] t)) W) :
    W.cell? ⟨w.heap.size, 0, none⟩ = some (.int .i64 a) ∧ W.cell? ⟨w.heap.size, 1, none⟩ = some (.int .i64 b) ∧ W.frozen? ⟨w.heap.size, 0, none⟩ = false ∧ W.frozen? ⟨w.heap.size, 1, none⟩ = false ∧ w.heap.size < W.heap.size := by
  have h1 := h.cell (show (w.alloc (.cells #[.int .i64 a, .int .i64 b] t)).cell? ⟨w.heap.size, 0, none⟩ = some (.int .i64 a) by simp)
  have h2 := h.cell (show (w.alloc (.cells #[.int .i64 a, .int .i64 b] t)).cell? ⟨w.heap.size, 1, none⟩ = some (.int .i64 b) by simp)
  exact ⟨h1, h2, by rw [h.frozens _ _ (by simp)]; simp, by rw [h.frozens _ _ (by simp)]; simp, World.block_lt_of_cell? W _ h1⟩
theorem res_putQ {W : World} {g : Nat} {a b : Value} (h1 : W.cell? ⟨g, 0, none⟩ = some a) (h2 : W.cell? ⟨g, 1, none⟩ = some b) (x y : Value) :
    (W.setCell ⟨g, 0, none⟩ x).cell? ⟨g, 0, none⟩ = some x ∧ ((W.setCell ⟨g, 0, none⟩ x).setCell ⟨g, 1, none⟩ y).cell? ⟨g, 1, none⟩ = some y := by
  refine ⟨World.cell?_setCell_same' _ _ _ (by rw [h1]; rfl), World.cell?_setCell_same' _ _ _ ?_⟩
  rw [World.cell?_setCell_other (h := fun he => by injection he; omega), h2]
  rfl
theorem own_extV {w w' : World} {base : Nat} {t : TypeId} {sz : Nat} {v : Value} {n : Nat} {xs : List Value} (h : w.ownsRow base t sz v n xs) (hE : Ext w w') : w'.ownsRow base t sz v n xs :=
  h.kept (row := none) ⟨hE.os, hE.tape, hE.output, hE.size, fun b hb _ => hE.block b hb⟩ (by cases v.ownBlock <;> simp)
theorem own_geV {w : World} {base : Nat} {t : TypeId} {sz : Nat} {v : Value} {n : Nat} {xs : List Value} (h : w.ownsRow base t sz v n xs) {B : Nat} (hB : B ≤ base) : ∀ k, v.ownBlock = some k → B ≤ k := fun k hk => Nat.le_trans hB (World.ownsRow.lt h k hk).1
theorem tadd_plain' (b off i : Nat) : (⟨b, off, none⟩ : Addr).add i = ⟨b, off + i, none⟩ := by
  unfold Addr.add
  split <;> simp_all
theorem catQ_le {M : Nat → Int} {D : Nat → ByteArray} {n u B : Nat} (h : ∀ i, i < n → (D i).size ≤ B) : ∀ k, k ≤ u → (catF (pickB M D n) ⟨#[]⟩ k).size ≤ k * B
  | 0, _ => by
    rw [show (catF (pickB M D n) ⟨#[]⟩ 0).size = 0 from rfl]
    exact Nat.zero_le _
  | k + 1, hk => by
    have h1 := catQ_le (u := u) (M := M) h k (by omega)
    have h2 : (pickB M D n k).size ≤ B := by
      unfold pickB pickD
      cases hf : (List.range n).find? fun i => M i == (k : Int) with
      | none => exact Nat.zero_le _
      | some i =>
        have := List.mem_of_find?_eq_some hf
        exact h i (by simpa using this)
    show (catF (pickB M D n) ⟨#[]⟩ k ++ pickB M D n k).size ≤ _
    rw [ByteArray.size_append, Nat.succ_mul]
    omega
theorem pickD_le {M : Nat → Int} {D : Nat → ByteArray} {k : Int} {B : Nat} (m : Nat) (h : ∀ i, i < m → (D i).size ≤ B) : ((pickD M D m k).getD ⟨#[]⟩).size ≤ B := by
  unfold pickD
  cases hf : (List.range m).find? fun i => M i == k with
  | none => exact Nat.zero_le _
  | some i =>
    have := List.mem_of_find?_eq_some hf
    exact h i (by simpa using this)
theorem refV_good {w : World} {s : ByteArray} {X : Nat → ByteArray} {kd : Int} {N : Nat → Int} {D : ByteArray} (h : RefV w s X kd N D 0) (hs : s.size ≤ 40000) : s.extract 512 (512 + N 3).toNat = D ∧ 0 ≤ N 3 ∧ 512 + N 3 ≤ (s.size : Int) ∧ D.size ≤ 40000 := by
  rcases h with ⟨_, h⟩ | ⟨h512, Y, kq, Q, d, k, _, ⟨h1, h2⟩ | ⟨_, h, _⟩ | ⟨_, _, _, ⟨d1, d2, _⟩, rfl, rfl, rfl, hD⟩⟩
  · cases h
  · exact absurd h2.symm h1
  · cases h
  · rw [ByteArray.size_extract] at d2
    have e1 : s.extract 512 (512 + Q 3).toNat = D := by
      rw [hD]
      apply ByteArray.ext
      simp only [ByteArray.data_extract, Array.extract_extract]
      congr 1
      have : s.data.size = s.size := rfl
      omega
    refine ⟨e1, d1, by omega, ?_⟩
    rw [← e1, ByteArray.size_extract]
    omega
theorem appQ_nil (C : ByteArray) : C ++ (⟨#[]⟩ : ByteArray) = C := by
  apply ByteArray.ext
  rw [ByteArray.data_append]
  exact Array.append_empty
theorem withinQ_any (n low high : Int) (w : World) : Calls Tryz.prog 38 #[.int .i64 n, .int .i64 low, .int .i64 high] w fun e w' => e = .returned (.bool (rngB n low high)) ∧ Ext w w' :=
  (within_rng n low high w).mono fun _ _ h => ⟨h.1, by rw [h.2]; exact Ext.refl _⟩
theorem infoRawB : (Tryz.prog.info? 75).map (fun i => (i.zero, i.size, i.bytes)) = some (some (.agg (rowRaw noX 0 noN)), 13, 144) := by kernel_rfl

set_option maxHeartbeats 4000000 in
set_option maxRecDepth 100000 in
theorem refVolJoin_any (w : World) (oa : Option Addr) (n cap : Nat) (T : Nat → ByteArray) (hn : n ≤ 30) (hat : ∀ k, k < n → ∃ b off, oa = some ⟨b, off, none⟩ ∧ w.cell? ⟨b, off + k, none⟩ = some (.string (T k))) (hT : ∀ i, i < n → (T i).size ≤ 40000)
    (X : Nat → Nat → ByteArray) (kd : Nat → Int) (N : Nat → Nat → Int) (D : Nat → ByteArray) (E : Nat → Int) (hV : ∀ i, i < n → RefV w (T i) (X i) (kd i) (N i) (D i) (E i)) (hr : ∀ i, i < n → E i = 0 → 0 ≤ N i 0 ∧ N i 0 < N i 1 ∧ N i 1 ≤ 20) :
    Calls Tryz.prog 11 #[.slice oa n cap] w fun x w' => x = .returned (.tuple #[.string (joinT E (fun i => N i 1) (fun i => N i 0) D n).v, .agg #[.int .i64 (joinT E (fun i => N i 1) (fun i => N i 0) D n).e, .int .i64 (joinT E (fun i => N i 1) (fun i => N i 0) D n).p]]) ∧ Ext w w' := by
  obtain ⟨U, hU⟩ : ∃ U : Nat → Int, U = fun i => N i 1 := ⟨_, rfl⟩
  obtain ⟨M, hM⟩ : ∃ M : Nat → Int, M = fun i => N i 0 := ⟨_, rfl⟩
  rw [← hU, ← hM]
  have hUj : ∀ j, N j 1 = U j := fun j => by rw [hU]
  have hMj : ∀ j, N j 0 = M j := fun j => by rw [hM]
  have HV := Lib.hid hV
  have Hr := Lib.hid hr
  have Hat := Lib.hid hat
  have HUM := Lib.hid (And.intro hUj hMj)
  have C8 := Lib.hid (fun w => bareQ_any 8 w)
  have C7 := Lib.hid (fun w => bareQ_any 7 w)
  have CG := Lib.hid (fun w => goodQ_any w)
  obtain ⟨i0, hi, hz0, hz1, hz2⟩ := info_parts infoRawB
  obtain ⟨R, hRe⟩ : ∃ R, R = joinT E U M D n := ⟨_, rfl⟩
  rw [← hRe]
  have hw0 : Ext w (w.alloc (.cells #[.int .i64 0, .int .i64 0] 25)) := (Ext.refl w).alloc _
  by_cases hn0 : n = 0
  · have HRj : Hid (R = ⟨⟨#[]⟩, 8, -1⟩) := Lib.hid (by rw [hRe]; exact if_pos hn0)
    have q : ((n : Int) == 0) = true := by rw [hn0]; rfl
    clear hRe hr hat hV hU hM hUj hMj hn0
    go_enter Tryz.func11, Tryz.ntmps11
    go_wp2_with fail
    refine (C8.out _).mono ?_; rintro x w1 ⟨rfl, hx1⟩
    obtain ⟨r1, r2, r3, r4, r5⟩ := res_boxQ (hx1)
    go_wp2_with fail
    obtain ⟨s0, s1⟩ := res_putQ r1 r2 (.int .i64 8) (.int .i64 (-1))
    exact bodyPost_ret (v := .tuple #[.string ⟨#[]⟩, .agg #[.int .i64 8, .int .i64 (-1)]]) (by simp [results, Tryz.results11, go_sem, s0, s1]) rfl ⟨by rw [HRj.out], ((hw0.trans (hx1)).setCell (Nat.le_refl _) _).setCell (Nat.le_refl _) _⟩
  · have q0 : ((n : Int) == 0) = false := by simp; omega
    have HRe := Lib.hid hRe
    clear hRe hr hat hV hU hM hUj hMj
    go_enter Tryz.func11, Tryz.ntmps11
    go_wp2_with fail
    go_loopw [4, 25] (fun was i wr => ∃ j : Nat, j ≤ n ∧ (∀ k, k < j → cdV E U M k = 0) ∧ i = .int .i64 (j : Int) ∧ wr.ownsRow (w.heap.size + 1) 75 13 was j (rowsL X kd N j) ∧ Ext (w.alloc (.cells #[.int .i64 0, .int .i64 0] 25)) wr) (fun _ i _ => n - (intOf i).toNat)
    case atStart => exact ⟨0, Nat.zero_le _, (fun k hk => absurd hk (Nat.not_lt_zero _)), rfl, World.ownsRow_nil _ _ _ _, Ext.refl _⟩
    case round =>
      obtain ⟨j, hj, hz, rfl, hO, hF⟩ := hrel
      obtain ⟨ra, rc, rfl⟩ := ownR_open hO
      have hE := hw0.trans hF
      have HZ := Lib.hid hz
      have HO := Lib.hid hO
      clear hz hO
      by_cases hlt : j < n
      · obtain ⟨b, off, hoa, hc⟩ := Hat.out j hlt
        have hcw := hE.cell hc
        have hcl := World.block_lt_of_cell? _ _ hcw
        subst hoa
        clear hc
        have hTj := hT j hlt
        rcases HV.out j hlt with ⟨h512, hE3⟩ | ⟨h512, Y, kq, Q, d, k, cH, hcase⟩
        · have HRj : Hid (R = ⟨⟨#[]⟩, 3, (j : Int)⟩) := Lib.hid (by
            have hc := cdV_err (E := E) (U := U) (M := M) (i := j) (by rw [hE3]; decide)
            rw [HRe.out, joinT_hit hlt HZ.out (by rw [hc, hE3]; decide), hc, hE3])
          have q : decide (((T j).size : Int) < 512) = true := decide_eq_true (by omega)
          clear HV hE3 h512
          obtain ⟨r1, r2, r3, r4, r5⟩ := res_boxQ (hF)
          go_wp2_with fail
          obtain ⟨s0, s1⟩ := res_putQ r1 r2 (.int .i64 3) (.int .i64 (j : Int))
          exact bodyPost_ret (v := .tuple #[.string ⟨#[]⟩, .agg #[.int .i64 3, .int .i64 (j : Int)]]) (by simp [results, Tryz.results11, go_sem, s0, s1]) rfl ⟨by rw [HRj.out], ((hw0.trans (hF)).setCell (Nat.le_refl _) _).setCell (Nat.le_refl _) _⟩
        · have q : decide (((T j).size : Int) < 512) = false := decide_eq_false (by omega)
          have q5 : (512 : Int) ≤ ((T j).size : Int) := by omega
          unfold rowRaw at cH
          have CH := Lib.hid cH
          clear cH
          by_cases hk : k = 0
          · subst hk
            have HC := Lib.hid hcase
            clear hcase
            go_wp2_with fail
            refine (CH.out _ hE).mono ?_; rintro x w3 ⟨rfl, hx3⟩
            have hF3 : Ext (w.alloc (.cells #[.int .i64 0, .int .i64 0] 25)) (w3.alloc (.cells #[.string (Y 0), .string (Y 1), .string (Y 2), .string (Y 3), .string (Y 4), .int .u8 kq, .int .i64 (Q 0), .int .i64 (Q 1), .int .i64 (Q 2), .int .i64 (Q 3), .int .i64 (Q 4), .int .i64 (Q 5), .int .i64 (Q 6)] 75)) := (hF.trans hx3).alloc _
            have hr3 : Ext wr (w3.alloc (.cells #[.string (Y 0), .string (Y 1), .string (Y 2), .string (Y 3), .string (Y 4), .int .u8 kq, .int .i64 (Q 0), .int .i64 (Q 1), .int .i64 (Q 2), .int .i64 (Q 3), .int .i64 (Q 4), .int .i64 (Q 5), .int .i64 (Q 6)] 75)) := hx3.alloc _
            have HQ := Lib.hid (show (w3.alloc (.cells #[.string (Y 0), .string (Y 1), .string (Y 2), .string (Y 3), .string (Y 4), .int .u8 kq, .int .i64 (Q 0), .int .i64 (Q 1), .int .i64 (Q 2), .int .i64 (Q 3), .int .i64 (Q 4), .int .i64 (Q 5), .int .i64 (Q 6)] 75)).heap[w3.heap.size]? = some (.cells (rowRaw Y kq Q) 75 (0, 0)) from World.alloc_heap_new w3 _)
            go_upto_region 12 with fail
            generalize hW4 : w3.alloc (.cells #[.string (Y 0), .string (Y 1), .string (Y 2), .string (Y 3), .string (Y 4), .int .u8 kq, .int .i64 (Q 0), .int .i64 (Q 1), .int .i64 (Q 2), .int .i64 (Q 3), .int .i64 (Q 4), .int .i64 (Q 5), .int .i64 (Q 6)] 75) = W4 at *
            clear hW4
            go_cut [89] (fun s wx => s = .bool (!(volHb Y kq Q && volDb (T j) Q)) ∧ Ext W4 wx)
            case first =>
              have c0 : _ = some (Value.string (Y 0)) := vrow_cell HQ.out (i := 0) rfl
              have c5 : _ = some (Value.int .u8 kq) := vrow_cell HQ.out (i := 5) rfl
              have c6 : _ = some (Value.int .i64 (Q 0)) := vrow_cell HQ.out (i := 6) rfl
              have c7 : _ = some (Value.int .i64 (Q 1)) := vrow_cell HQ.out (i := 7) rfl
              have c9 : _ = some (Value.int .i64 (Q 3)) := vrow_cell HQ.out (i := 9) rfl
              have kl := lt_of_block HQ.out
              by_cases h0 : Y 0 = volNm
              · have t0 : (!(Y 0).toList == [86, 79, 76, 85, 77, 69]) = false := by
                  rw [h0]
                  decide +kernel
                have H0 := Lib.hid h0
                clear h0
                by_cases h1 : kq = 77
                · have t1 : (kq != 77) = false := by rw [h1]; rfl
                  have H1 := Lib.hid h1
                  clear h1
                  have c1 := fun w => withinQ_any (Q 1) 1 20 w
                  cases hb1 : rngB (Q 1) 1 20 with
                  | false =>
                    rw [hb1] at c1
                    have C1 := Lib.hid c1
                    have hv : (!(volHb Y kq Q && volDb (T j) Q)) = true := by
                      unfold volHb
                      rw [hb1, Bool.false_and, Bool.and_false, Bool.and_false, Bool.false_and]
                      rfl
                    clear c1
                    refine wp_region_det (Stood _) (by kernel_rfl) (by kernel_rfl) (Stood.start _) ?_
                    repeat (first
                      | (refine det_skip (by rfl) ?_; simp only [Act.put, List.setIfInBounds_toArray, List.set_cons_zero, List.set_cons_succ, t0, t1])
                      | (refine det_op (v := ?_) rfl (by rfl) (fun w' hS => ?_) ?_; rotate_left; (focus (obtain ⟨hcl, hxt⟩ := hS; go_wp2_with (first | ((with_reducible refine (C1.out _).mono ?_); rintro e w1 ⟨rfl, hx1⟩)); (first | refine ⟨?_, rfl, hcl, hxt⟩ | refine ⟨?_, rfl, Stood.of (hxt.trans (by assumption))⟩); (first | (simp only [List.getElem?_toArray, List.getElem?_cons_succ, List.getElem?_cons_zero]; rfl) | rfl))); simp only [Act.put, List.setIfInBounds_toArray, List.set_cons_zero, List.set_cons_succ, t0, t1]))
                    refine det_end ?_
                    intro w8 hS
                    have hx8 := hS.2
                    clear hS
                    go_wp2_with fail
                    go_meet
                    exact ⟨by rw [hv], hx8⟩
                  | true =>
                    have hq1 : 1 ≤ Q 1 ∧ Q 1 ≤ 20 := by simpa [rngB] using hb1
                    obtain ⟨hq1, hq1'⟩ := hq1
                    rw [hb1] at c1
                    have C1 := Lib.hid c1
                    have c2 := fun w => withinQ_any (Q 0) 0 (Q 1 - 1) w
                    clear c1
                    cases hb2 : rngB (Q 0) 0 (Q 1 - 1) with
                    | false =>
                      rw [hb2] at c2
                      have C2 := Lib.hid c2
                      have hv : (!(volHb Y kq Q && volDb (T j) Q)) = true := by
                        unfold volHb
                        rw [hb2, Bool.and_false, Bool.and_false, Bool.and_false, Bool.false_and]
                        rfl
                      clear c2
                      refine wp_region_det (Stood _) (by kernel_rfl) (by kernel_rfl) (Stood.start _) ?_
                      repeat (first
                        | (refine det_skip (by rfl) ?_; simp only [Act.put, List.setIfInBounds_toArray, List.set_cons_zero, List.set_cons_succ, t0, t1])
                        | (refine det_op (v := ?_) rfl (by rfl) (fun w' hS => ?_) ?_; rotate_left; (focus (obtain ⟨hcl, hxt⟩ := hS; go_wp2_with (first | ((with_reducible refine (C1.out _).mono ?_); rintro e w1 ⟨rfl, hx1⟩) | ((with_reducible refine (C2.out _).mono ?_); rintro e w1 ⟨rfl, hx1⟩)); (first | refine ⟨?_, rfl, hcl, hxt⟩ | refine ⟨?_, rfl, Stood.of (hxt.trans (by assumption))⟩); (first | (simp only [List.getElem?_toArray, List.getElem?_cons_succ, List.getElem?_cons_zero]; rfl) | rfl))); simp only [Act.put, List.setIfInBounds_toArray, List.set_cons_zero, List.set_cons_succ, t0, t1]))
                      refine det_end ?_
                      intro w8 hS
                      have hx8 := hS.2
                      clear hS
                      go_wp2_with fail
                      go_meet
                      exact ⟨by rw [hv], hx8⟩
                    | true =>
                      rw [hb2] at c2
                      have C2 := Lib.hid c2
                      have c3 := fun w => withinQ_any (Q 3) 0 (((T j).size : Int) - 512) w
                      clear c2
                      cases hb3 : rngB (Q 3) 0 (((T j).size : Int) - 512) with
                      | false =>
                        rw [hb3] at c3
                        have C3 := Lib.hid c3
                        have hv : (!(volHb Y kq Q && volDb (T j) Q)) = true := by
                          unfold volDb
                          rw [hb3, Bool.false_and, Bool.and_false]
                          rfl
                        clear c3
                        refine wp_region_det (Stood _) (by kernel_rfl) (by kernel_rfl) (Stood.start _) ?_
                        repeat (first
                          | (refine det_skip (by rfl) ?_; simp only [Act.put, List.setIfInBounds_toArray, List.set_cons_zero, List.set_cons_succ, t0, t1])
                          | (refine det_op (v := ?_) rfl (by rfl) (fun w' hS => ?_) ?_; rotate_left; (focus (obtain ⟨hcl, hxt⟩ := hS; go_wp2_with (first | ((with_reducible refine (C1.out _).mono ?_); rintro e w1 ⟨rfl, hx1⟩) | ((with_reducible refine (C2.out _).mono ?_); rintro e w1 ⟨rfl, hx1⟩) | ((with_reducible refine (C3.out _).mono ?_); rintro e w1 ⟨rfl, hx1⟩)); (first | refine ⟨?_, rfl, hcl, hxt⟩ | refine ⟨?_, rfl, Stood.of (hxt.trans (by assumption))⟩); (first | (simp only [List.getElem?_toArray, List.getElem?_cons_succ, List.getElem?_cons_zero]; rfl) | rfl))); simp only [Act.put, List.setIfInBounds_toArray, List.set_cons_zero, List.set_cons_succ, t0, t1]))
                        refine det_end ?_
                        intro w8 hS
                        have hx8 := hS.2
                        clear hS
                        go_wp2_with fail
                        go_meet
                        exact ⟨by rw [hv], hx8⟩
                      | true =>
                        have hq3 : 0 ≤ Q 3 ∧ Q 3 ≤ ((T j).size : Int) - 512 := by simpa [rngB] using hb3
                        obtain ⟨hq3, hq3'⟩ := hq3
                        rw [hb3] at c3
                        have C3 := Lib.hid c3
                        have c4 := fun w => refFill_any ((T j).extract 512 (512 + Q 3).toNat) (by rw [ByteArray.size_extract]; omega) w
                        rw [show ((T j).extract 512 (512 + Q 3).toNat).size = (Q 3).toNat by rw [ByteArray.size_extract]; omega] at c4
                        have C4 := Lib.hid c4
                        have hpd := padB_size (Q 3).toNat
                        have hle1 : (512 : Int) ≤ 512 + Q 3 := by omega
                        have hle2 : 512 + Q 3 ≤ ((T j).size : Int) := by omega
                        have hvv : (volHb Y kq Q && volDb (T j) Q) = decide ((T j).extract 512 (T j).size = (T j).extract 512 (512 + Q 3).toNat ++ padB (Q 3).toNat) := by
                          unfold volHb volDb
                          rw [decide_eq_true H0.out, decide_eq_true H1.out, hb1, hb2, hb3]
                          rfl
                        clear c3 c4
                        generalize padB (Q 3).toNat = P at *
                        by_cases h5 : (T j).extract 512 (T j).size = (T j).extract 512 (512 + Q 3).toNat ++ P
                        · have t5 : (!((T j).extract 512 (T j).size).toList == ((T j).extract 512 (512 + Q 3).toNat ++ P).toList) = false := by
                            rw [h5, beq_self_eq_true]
                            rfl
                          have hv : (!(volHb Y kq Q && volDb (T j) Q)) = false := by rw [hvv, decide_eq_true h5]; rfl
                          clear hvv h5
                          refine wp_region_det (Stood _) (by kernel_rfl) (by kernel_rfl) (Stood.start _) ?_
                          repeat (first
                            | (refine det_skip (by rfl) ?_; simp only [Act.put, List.setIfInBounds_toArray, List.set_cons_zero, List.set_cons_succ, t0, t1, t5])
                            | (refine det_op (v := ?_) rfl (by rfl) (fun w' hS => ?_) ?_; rotate_left; (focus (obtain ⟨hcl, hxt⟩ := hS; go_wp2_with (first | ((with_reducible refine (C1.out _).mono ?_); rintro e w1 ⟨rfl, hx1⟩) | ((with_reducible refine (C2.out _).mono ?_); rintro e w1 ⟨rfl, hx1⟩) | ((with_reducible refine (C3.out _).mono ?_); rintro e w1 ⟨rfl, hx1⟩) | ((with_reducible refine (C4.out _).mono ?_); rintro e w1 ⟨rfl, hx1⟩)); (first | refine ⟨?_, rfl, hcl, hxt⟩ | refine ⟨?_, rfl, Stood.of (hxt.trans (by assumption))⟩); (first | (simp only [List.getElem?_toArray, List.getElem?_cons_succ, List.getElem?_cons_zero]; rfl) | rfl))); simp only [Act.put, List.setIfInBounds_toArray, List.set_cons_zero, List.set_cons_succ, t0, t1, t5]))
                          refine det_end ?_
                          intro w8 hS
                          have hx8 := hS.2
                          clear hS
                          go_wp2_with fail
                          go_meet
                          exact ⟨by rw [hv], hx8⟩
                        · have t5 : (!((T j).extract 512 (T j).size).toList == ((T j).extract 512 (512 + Q 3).toNat ++ P).toList) = true := by
                            rw [Bool.not_eq_true', beq_eq_false_iff_ne]
                            intro e
                            exact h5 (toList_inj e)
                          have hv : (!(volHb Y kq Q && volDb (T j) Q)) = true := by rw [hvv, decide_eq_false h5]; rfl
                          clear hvv h5
                          refine wp_region_det (Stood _) (by kernel_rfl) (by kernel_rfl) (Stood.start _) ?_
                          repeat (first
                            | (refine det_skip (by rfl) ?_; simp only [Act.put, List.setIfInBounds_toArray, List.set_cons_zero, List.set_cons_succ, t0, t1, t5])
                            | (refine det_op (v := ?_) rfl (by rfl) (fun w' hS => ?_) ?_; rotate_left; (focus (obtain ⟨hcl, hxt⟩ := hS; go_wp2_with (first | ((with_reducible refine (C1.out _).mono ?_); rintro e w1 ⟨rfl, hx1⟩) | ((with_reducible refine (C2.out _).mono ?_); rintro e w1 ⟨rfl, hx1⟩) | ((with_reducible refine (C3.out _).mono ?_); rintro e w1 ⟨rfl, hx1⟩) | ((with_reducible refine (C4.out _).mono ?_); rintro e w1 ⟨rfl, hx1⟩)); (first | refine ⟨?_, rfl, hcl, hxt⟩ | refine ⟨?_, rfl, Stood.of (hxt.trans (by assumption))⟩); (first | (simp only [List.getElem?_toArray, List.getElem?_cons_succ, List.getElem?_cons_zero]; rfl) | rfl))); simp only [Act.put, List.setIfInBounds_toArray, List.set_cons_zero, List.set_cons_succ, t0, t1, t5]))
                          refine det_end ?_
                          intro w8 hS
                          have hx8 := hS.2
                          clear hS
                          go_wp2_with fail
                          go_meet
                          exact ⟨by rw [hv], hx8⟩
                · have t1 : (kq != 77) = true := by simpa using h1
                  have hv : (!(volHb Y kq Q && volDb (T j) Q)) = true := by
                    unfold volHb
                    rw [decide_eq_false h1, Bool.false_and, Bool.and_false, Bool.false_and]
                    rfl
                  clear h1
                  refine wp_region_det (Stood _) (by kernel_rfl) (by kernel_rfl) (Stood.start _) ?_
                  repeat (first
                    | (refine det_skip (by rfl) ?_; simp only [Act.put, List.setIfInBounds_toArray, List.set_cons_zero, List.set_cons_succ, t0, t1])
                    | (refine det_op (v := ?_) rfl (by rfl) (fun w' hS => ?_) ?_; rotate_left; (focus (obtain ⟨hcl, hxt⟩ := hS; go_wp2_with (first | ((with_reducible refine (withinQ_any _ _ _ _).mono ?_); rintro e w1 ⟨rfl, hx1⟩)); (first | refine ⟨?_, rfl, hcl, hxt⟩ | refine ⟨?_, rfl, Stood.of (hxt.trans (by assumption))⟩); (first | (simp only [List.getElem?_toArray, List.getElem?_cons_succ, List.getElem?_cons_zero]; rfl) | rfl))); simp only [Act.put, List.setIfInBounds_toArray, List.set_cons_zero, List.set_cons_succ, t0, t1]))
                  refine det_end ?_
                  intro w8 hS
                  have hx8 := hS.2
                  clear hS
                  go_wp2_with fail
                  go_meet
                  exact ⟨by rw [hv], hx8⟩
              · have t0 : (!(Y 0).toList == [86, 79, 76, 85, 77, 69]) = true := by
                  rw [Bool.not_eq_true', beq_eq_false_iff_ne]
                  intro e
                  exact h0 (toList_inj (e.trans (by decide +kernel)))
                have hv : (!(volHb Y kq Q && volDb (T j) Q)) = true := by
                  unfold volHb
                  rw [decide_eq_false h0, Bool.false_and, Bool.false_and]
                  rfl
                refine wp_region_det (Stood _) (by kernel_rfl) (by kernel_rfl) (Stood.start _) ?_
                repeat (first
                  | (refine det_skip (by rfl) ?_; simp only [Act.put, List.setIfInBounds_toArray, List.set_cons_zero, List.set_cons_succ, t0])
                  | (refine det_op (v := ?_) rfl (by rfl) (fun w' hS => ?_) ?_; rotate_left; (focus (obtain ⟨hcl, hxt⟩ := hS; go_wp2_with (first | ((with_reducible refine (withinQ_any _ _ _ _).mono ?_); rintro e w1 ⟨rfl, hx1⟩)); (first | refine ⟨?_, rfl, hcl, hxt⟩ | refine ⟨?_, rfl, Stood.of (hxt.trans (by assumption))⟩); (first | (simp only [List.getElem?_toArray, List.getElem?_cons_succ, List.getElem?_cons_zero]; rfl) | rfl))); simp only [Act.put, List.setIfInBounds_toArray, List.set_cons_zero, List.set_cons_succ, t0]))
                refine det_end ?_
                intro w8 hS
                have hx8 := hS.2
                clear hS
                go_wp2_with fail
                go_meet
                exact ⟨by rw [hv], hx8⟩
            case rest =>
              obtain ⟨rfl, hx4⟩ := hcut
              have hF4 : Ext (w.alloc (.cells #[.int .i64 0, .int .i64 0] 25)) wc := hF3.trans hx4
              have HQ4 := Lib.hid ((hx4.block _ (lt_of_block HQ.out)).trans HQ.out)
              cases hgd : (volHb Y kq Q && volDb (T j) Q) with
              | false =>
                have hE3 : E j = 3 := by
                  rcases HC.out with ⟨h, _⟩ | ⟨_, h, _⟩ | ⟨_, _, a, b, _⟩
                  · exact absurd rfl h
                  · exact h
                  · have h := (volHD h512).2 ⟨a, b⟩
                    rw [hgd] at h
                    cases h
                have HRj : Hid (R = ⟨⟨#[]⟩, 3, (j : Int)⟩) := Lib.hid (by
                  have hc := cdV_err (E := E) (U := U) (M := M) (i := j) (by rw [hE3]; decide)
                  rw [HRe.out, joinT_hit hlt HZ.out (by rw [hc, hE3]; decide), hc, hE3])
                clear HV hE3
                obtain ⟨r1, r2, r3, r4, r5⟩ := res_boxQ (hF4)
                go_wp2_with fail
                obtain ⟨s0, s1⟩ := res_putQ r1 r2 (.int .i64 3) (.int .i64 (j : Int))
                exact bodyPost_ret (v := .tuple #[.string ⟨#[]⟩, .agg #[.int .i64 3, .int .i64 (j : Int)]]) (by simp [results, Tryz.results11, go_sem, s0, s1]) rfl ⟨by rw [HRj.out], ((hw0.trans (hF4)).setCell (Nat.le_refl _) _).setCell (Nat.le_refl _) _⟩
              | true =>
                have hok : E j = 0 ∧ Y = X j ∧ kq = kd j ∧ Q = N j ∧ D j = ((T j).extract 512 (T j).size).extract 0 (N j 3).toNat := by
                  rcases HC.out with ⟨h, _⟩ | ⟨_, _, h⟩ | ⟨_, h, _, _, a, b, c, d⟩
                  · exact absurd rfl h
                  · exact absurd ((volHD h512).1 hgd) h
                  · exact ⟨h, a, b, c, d⟩
                obtain ⟨hE0, rfl, rfl, rfl, hDj⟩ := hok
                have HE0 := Lib.hid hE0
                have HDj := Lib.hid hDj
                have HU := Lib.hid (And.intro (HUM.out.1 j) (HUM.out.1 0))
                have HM := Lib.hid (fun k => HUM.out.2 k)
                clear hE0 hDj HV HC CH hgd C7 C8 CG hTj q q5 h512
                go_wp2_with fail
                go_loopw [94] (fun i wq => ∃ k : Nat, k ≤ j ∧ (0 < k → N j 1 = N 0 1) ∧ i = .int .i64 (k : Int) ∧ Ext wc wq) (fun i _ => j - (intOf i).toNat)
                case atStart => exact ⟨0, Nat.zero_le _, (fun h => absurd h (Nat.lt_irrefl _)), rfl, Ext.refl _⟩
                case round =>
                  rename World => wq
                  obtain ⟨k, hk, hz2, rfl, hx6⟩ := hrel
                  have HZ2 := Lib.hid hz2
                  clear hz2
                  by_cases hlk : k < j
                  · obtain ⟨g, hra, hrc, hcs⟩ := ownR_at HO.out hlk
                    have hrq := (hr3.trans hx4).trans hx6
                    have g0 : wq.cell? ⟨g, k * 13, none⟩ = some (.string (X k 0)) := hrq.cell (hcs 0 _ rfl)
                    have g1 : wq.cell? ⟨g, k * 13 + 1, none⟩ = some (.string (X k 1)) := hrq.cell (hcs 1 _ rfl)
                    have g2 : wq.cell? ⟨g, k * 13 + 2, none⟩ = some (.string (X k 2)) := hrq.cell (hcs 2 _ rfl)
                    have g3 : wq.cell? ⟨g, k * 13 + 3, none⟩ = some (.string (X k 3)) := hrq.cell (hcs 3 _ rfl)
                    have g4 : wq.cell? ⟨g, k * 13 + 4, none⟩ = some (.string (X k 4)) := hrq.cell (hcs 4 _ rfl)
                    have g5 : wq.cell? ⟨g, k * 13 + 5, none⟩ = some (.int .u8 (kd k)) := hrq.cell (hcs 5 _ rfl)
                    have g6 : wq.cell? ⟨g, k * 13 + 6, none⟩ = some (.int .i64 (N k 0)) := hrq.cell (hcs 6 _ rfl)
                    have g7 : wq.cell? ⟨g, k * 13 + 7, none⟩ = some (.int .i64 (N k 1)) := hrq.cell (hcs 7 _ rfl)
                    have g8 : wq.cell? ⟨g, k * 13 + 8, none⟩ = some (.int .i64 (N k 2)) := hrq.cell (hcs 8 _ rfl)
                    have g9 : wq.cell? ⟨g, k * 13 + 9, none⟩ = some (.int .i64 (N k 3)) := hrq.cell (hcs 9 _ rfl)
                    have g10 : wq.cell? ⟨g, k * 13 + 10, none⟩ = some (.int .i64 (N k 4)) := hrq.cell (hcs 10 _ rfl)
                    have g11 : wq.cell? ⟨g, k * 13 + 11, none⟩ = some (.int .i64 (N k 5)) := hrq.cell (hcs 11 _ rfl)
                    have g12 : wq.cell? ⟨g, k * 13 + 12, none⟩ = some (.int .i64 (N k 6)) := hrq.cell (hcs 12 _ rfl)
                    have hlw : w3.heap.size < wq.heap.size := Nat.lt_of_lt_of_le (lt_of_block HQ4.out) hx6.size
                    have e6 : wq.cell? ⟨w3.heap.size, 6, none⟩ = some (.int .i64 (N j 0)) := hx6.cell (vrow_cell HQ4.out (i := 6) rfl)
                    have e7 : wq.cell? ⟨w3.heap.size, 7, none⟩ = some (.int .i64 (N j 1)) := hx6.cell (vrow_cell HQ4.out (i := 7) rfl)
                    have hF6 : Ext (w.alloc (.cells #[.int .i64 0, .int .i64 0] 25)) (wq.alloc (.cells #[.string (X k 0), .string (X k 1), .string (X k 2), .string (X k 3), .string (X k 4), .int .u8 (kd k), .int .i64 (N k 0), .int .i64 (N k 1), .int .i64 (N k 2), .int .i64 (N k 3), .int .i64 (N k 4), .int .i64 (N k 5), .int .i64 (N k 6)] 75)) := (hF4.trans hx6).alloc _
                    subst hra
                    clear hcs
                    by_cases hk0 : k = 0
                    · have q1 : ((k : Int) == 0) = true := by rw [hk0]; rfl
                      have HK0 := Lib.hid hk0
                      clear hk0
                      by_cases hu : N j 1 = N 0 1
                      · have q2 : (N k 1 != N j 1) = false := by rw [HK0.out, hu, bne_self_eq_false]
                        have Hu := Lib.hid hu
                        clear hu
                        go_wp2_with fail
                        go_roundw
                        case rel => exact ⟨k + 1, hlk, fun _ => Hu.out, by go_num, hx6.alloc _⟩
                        case measure => simp [intOf]; omega
                      · have q2 : (N k 1 != N j 1) = true := by rw [HK0.out, bne_iff_ne]; exact fun e => hu e.symm
                        have HRj : Hid (R = ⟨⟨#[]⟩, 10, (j : Int)⟩) := Lib.hid (by
                          have hc := cdV_order (M := M) HE0.out (show 0 < j by omega) (show U j ≠ U 0 by rw [← HU.out.1, ← HU.out.2]; exact hu)
                          rw [HRe.out, joinT_hit hlt HZ.out (by rw [hc]; decide), hc])
                        clear hu
                        obtain ⟨r1, r2, r3, r4, r5⟩ := res_boxQ (hF6)
                        go_wp2_with fail
                        obtain ⟨s0, s1⟩ := res_putQ r1 r2 (.int .i64 10) (.int .i64 (j : Int))
                        exact bodyPost_ret (v := .tuple #[.string ⟨#[]⟩, .agg #[.int .i64 10, .int .i64 (j : Int)]]) (by simp [results, Tryz.results11, go_sem, s0, s1]) rfl ⟨by rw [HRj.out], ((hw0.trans (hF6)).setCell (Nat.le_refl _) _).setCell (Nat.le_refl _) _⟩
                    · have q1 : ((k : Int) == 0) = false := by simpa using hk0
                      have Hu : Hid (N j 1 = N 0 1) := Lib.hid (HZ2.out (Nat.pos_of_ne_zero hk0))
                      clear hk0
                      go_wp2_with fail
                      go_roundw
                      case rel => exact ⟨k + 1, hlk, fun _ => Hu.out, by go_num, hx6.alloc _⟩
                      case measure => simp [intOf]; omega
                  · obtain rfl : k = j := by omega
                    have Hu : Hid (0 < k → U k = U 0) := Lib.hid (fun h => by rw [← HU.out.1, ← HU.out.2]; exact HZ2.out h)
                    have hE6 := hF4.trans hx6
                    clear HZ2
                    go_wp2_with fail
                    go_loopw [113] (fun i wp => ∃ m : Nat, m ≤ k ∧ (∀ i, i < m → N i 0 ≠ N k 0) ∧ i = .int .i64 (m : Int) ∧ Ext wq wp) (fun i _ => k - (intOf i).toNat)
                    case atStart => exact ⟨0, Nat.zero_le _, (fun i h => absurd h (Nat.not_lt_zero _)), rfl, Ext.refl _⟩
                    case round =>
                      rename World => wp
                      obtain ⟨m, hm, hz3, rfl, hx8⟩ := hrel
                      have HZ3 := Lib.hid hz3
                      have hx7 := hx6.trans hx8
                      clear hz3
                      by_cases hlm : m < k
                      · obtain ⟨g, hra, hrc, hcs⟩ := ownR_at HO.out hlm
                        have hrq := (hr3.trans hx4).trans hx7
                        have g0 : wp.cell? ⟨g, m * 13, none⟩ = some (.string (X m 0)) := hrq.cell (hcs 0 _ rfl)
                        have g1 : wp.cell? ⟨g, m * 13 + 1, none⟩ = some (.string (X m 1)) := hrq.cell (hcs 1 _ rfl)
                        have g2 : wp.cell? ⟨g, m * 13 + 2, none⟩ = some (.string (X m 2)) := hrq.cell (hcs 2 _ rfl)
                        have g3 : wp.cell? ⟨g, m * 13 + 3, none⟩ = some (.string (X m 3)) := hrq.cell (hcs 3 _ rfl)
                        have g4 : wp.cell? ⟨g, m * 13 + 4, none⟩ = some (.string (X m 4)) := hrq.cell (hcs 4 _ rfl)
                        have g5 : wp.cell? ⟨g, m * 13 + 5, none⟩ = some (.int .u8 (kd m)) := hrq.cell (hcs 5 _ rfl)
                        have g6 : wp.cell? ⟨g, m * 13 + 6, none⟩ = some (.int .i64 (N m 0)) := hrq.cell (hcs 6 _ rfl)
                        have g7 : wp.cell? ⟨g, m * 13 + 7, none⟩ = some (.int .i64 (N m 1)) := hrq.cell (hcs 7 _ rfl)
                        have g8 : wp.cell? ⟨g, m * 13 + 8, none⟩ = some (.int .i64 (N m 2)) := hrq.cell (hcs 8 _ rfl)
                        have g9 : wp.cell? ⟨g, m * 13 + 9, none⟩ = some (.int .i64 (N m 3)) := hrq.cell (hcs 9 _ rfl)
                        have g10 : wp.cell? ⟨g, m * 13 + 10, none⟩ = some (.int .i64 (N m 4)) := hrq.cell (hcs 10 _ rfl)
                        have g11 : wp.cell? ⟨g, m * 13 + 11, none⟩ = some (.int .i64 (N m 5)) := hrq.cell (hcs 11 _ rfl)
                        have g12 : wp.cell? ⟨g, m * 13 + 12, none⟩ = some (.int .i64 (N m 6)) := hrq.cell (hcs 12 _ rfl)
                        have hlw : w3.heap.size < wp.heap.size := Nat.lt_of_lt_of_le (lt_of_block HQ4.out) hx7.size
                        have e6 : wp.cell? ⟨w3.heap.size, 6, none⟩ = some (.int .i64 (N k 0)) := hx7.cell (vrow_cell HQ4.out (i := 6) rfl)
                        have e7 : wp.cell? ⟨w3.heap.size, 7, none⟩ = some (.int .i64 (N k 1)) := hx7.cell (vrow_cell HQ4.out (i := 7) rfl)
                        have hF6 : Ext (w.alloc (.cells #[.int .i64 0, .int .i64 0] 25)) (wp.alloc (.cells #[.string (X m 0), .string (X m 1), .string (X m 2), .string (X m 3), .string (X m 4), .int .u8 (kd m), .int .i64 (N m 0), .int .i64 (N m 1), .int .i64 (N m 2), .int .i64 (N m 3), .int .i64 (N m 4), .int .i64 (N m 5), .int .i64 (N m 6)] 75)) := (hF4.trans hx7).alloc _
                        subst hra
                        clear hcs
                        by_cases hu : N m 0 = N k 0
                        · have q2 : (N m 0 == N k 0) = true := by rw [hu, beq_self_eq_true]
                          have HRj : Hid (R = ⟨⟨#[]⟩, 9, (k : Int)⟩) := Lib.hid (by
                            have hc := cdV_twice (M := M) HE0.out Hu.out hlm (show M m = M k by rw [← HM.out m, ← HM.out k]; exact hu)
                            rw [HRe.out, joinT_hit hlt HZ.out (by rw [hc]; decide), hc])
                          clear hu
                          obtain ⟨r1, r2, r3, r4, r5⟩ := res_boxQ (hF6)
                          go_wp2_with fail
                          obtain ⟨s0, s1⟩ := res_putQ r1 r2 (.int .i64 9) (.int .i64 (k : Int))
                          exact bodyPost_ret (v := .tuple #[.string ⟨#[]⟩, .agg #[.int .i64 9, .int .i64 (k : Int)]]) (by simp [results, Tryz.results11, go_sem, s0, s1]) rfl ⟨by rw [HRj.out], ((hw0.trans (hF6)).setCell (Nat.le_refl _) _).setCell (Nat.le_refl _) _⟩
                        · have q2 : (N m 0 == N k 0) = false := by simpa using hu
                          have hz4 : Hid (∀ i, i < m + 1 → N i 0 ≠ N k 0) := Lib.hid (fun i hi => by
                            rcases Nat.lt_succ_iff_lt_or_eq.1 hi with h1 | rfl
                            · exact HZ3.out i h1
                            · exact hu)
                          clear hu
                          go_wp2_with fail
                          go_roundw
                          case rel => exact ⟨m + 1, hlm, hz4.out, by go_num, hx8.alloc _⟩
                          case measure => simp [intOf]; omega
                      · obtain rfl : m = k := by omega
                        have HZ5 : Hid (∀ k, k < m + 1 → cdV E U M k = 0) := Lib.hid (fun i hi => by
                          rcases Nat.lt_succ_iff_lt_or_eq.1 hi with h1 | rfl
                          · exact HZ.out i h1
                          · exact cdV_good HE0.out Hu.out (fun i' hi' => by rw [← HM.out i', ← HM.out i]; exact HZ3.out i' hi'))
                        have hO5 := own_extV HO.out ((hr3.trans hx4).trans hx7)
                        have hF7 := hF4.trans hx7
                        have hwz : w.heap.size + 1 ≤ wp.heap.size := by
                          have := hF7.size
                          simpa using this
                        have HQ7 := Lib.hid ((hx7.block _ (lt_of_block HQ4.out)).trans HQ4.out)
                        have hlw : w3.heap.size < wp.heap.size := Nat.lt_of_lt_of_le (lt_of_block HQ4.out) hx7.size
                        have e0 : wp.cell? ⟨w3.heap.size, 0, none⟩ = some (.string (X m 0)) := vrow_cell HQ7.out (i := 0) rfl
                        have e1 : wp.cell? ⟨w3.heap.size, 1, none⟩ = some (.string (X m 1)) := vrow_cell HQ7.out (i := 1) rfl
                        have e2 : wp.cell? ⟨w3.heap.size, 2, none⟩ = some (.string (X m 2)) := vrow_cell HQ7.out (i := 2) rfl
                        have e3 : wp.cell? ⟨w3.heap.size, 3, none⟩ = some (.string (X m 3)) := vrow_cell HQ7.out (i := 3) rfl
                        have e4 : wp.cell? ⟨w3.heap.size, 4, none⟩ = some (.string (X m 4)) := vrow_cell HQ7.out (i := 4) rfl
                        have e5 : wp.cell? ⟨w3.heap.size, 5, none⟩ = some (.int .u8 (kd m)) := vrow_cell HQ7.out (i := 5) rfl
                        have e6 : wp.cell? ⟨w3.heap.size, 6, none⟩ = some (.int .i64 (N m 0)) := vrow_cell HQ7.out (i := 6) rfl
                        have e7 : wp.cell? ⟨w3.heap.size, 7, none⟩ = some (.int .i64 (N m 1)) := vrow_cell HQ7.out (i := 7) rfl
                        have e8 : wp.cell? ⟨w3.heap.size, 8, none⟩ = some (.int .i64 (N m 2)) := vrow_cell HQ7.out (i := 8) rfl
                        have e9 : wp.cell? ⟨w3.heap.size, 9, none⟩ = some (.int .i64 (N m 3)) := vrow_cell HQ7.out (i := 9) rfl
                        have e10 : wp.cell? ⟨w3.heap.size, 10, none⟩ = some (.int .i64 (N m 4)) := vrow_cell HQ7.out (i := 10) rfl
                        have e11 : wp.cell? ⟨w3.heap.size, 11, none⟩ = some (.int .i64 (N m 5)) := vrow_cell HQ7.out (i := 11) rfl
                        have e12 : wp.cell? ⟨w3.heap.size, 12, none⟩ = some (.int .i64 (N m 6)) := vrow_cell HQ7.out (i := 12) rfl
                        clear HZ3 HQ7 Hu HM HU HE0
                        go_wp2_with (at_builtin; refine wpList_append_own _ rfl _ _ 73 rfl (w.heap.size + 1) 75 i0 (.agg (rowRaw noX 0 noN)) 13 144 Tryz.underlying73 hi hz0 hz1 hz2 rfl (by decide) _ _ _ rfl (hO5.alloc _) ⟨wp.heap.size, 0, none⟩ 1 1 [.string (X m 0), .string (X m 1), .string (X m 2), .string (X m 3), .string (X m 4), .int .u8 (kd m), .int .i64 (N m 0), .int .i64 (N m 1), .int .i64 (N m 2), .int .i64 (N m 3), .int .i64 (N m 4), .int .i64 (N m 5), .int .i64 (N m 6)] rfl rfl ?c1 ?c2 ?c3 ?c4 ?c5 ?_)
                        case c1 =>
                          intro i v hv
                          rw [tadd_plain', Nat.zero_add]
                          exact vrow_cell (World.alloc_heap_new wp _) (by simpa using hv)
                        case c2 => intro v hv; simp at hv; rcases hv with rfl | rfl | rfl | rfl | rfl | rfl | rfl | rfl | rfl | rfl | rfl | rfl | rfl <;> rfl
                        case c3 => unfold maxLen; omega
                        case c4 => omega
                        case c5 => simp; omega
                        intro v' w8 hown8 hgrow _
                        have hF8 : Ext (w.alloc (.cells #[.int .i64 0, .int .i64 0] 25)) w8 := (hF7.alloc _).ofGrown hgrow (fun i hi => own_geV hO5 (by simp) i hi)
                        have Hn : Hid (w8.ownsRow (w.heap.size + 1) 75 13 v' (m + 1) (rowsL X kd N (m + 1))) := Lib.hid hown8
                        clear hO5 hown8 hgrow
                        go_wp2_with fail
                        go_roundw
                        case rel => exact ⟨m + 1, hlt, HZ5.out, by go_num, Hn.out, hF8⟩
                        case measure => simp [intOf]; omega
          · have hEk : E j = k := by
              rcases hcase with ⟨_, h⟩ | ⟨h, _⟩ | ⟨h, _⟩
              · exact h
              · exact absurd h hk
              · exact absurd h hk
            have HRj : Hid (R = ⟨⟨#[]⟩, k, (j : Int)⟩) := Lib.hid (by
              have hc := cdV_err (E := E) (U := U) (M := M) (i := j) (by rw [hEk]; exact hk)
              rw [HRe.out, joinT_hit hlt HZ.out (by rw [hc, hEk]; exact hk), hc, hEk])
            have qk : (k == 0) = false := by simpa using hk
            clear hcase hEk hk
            go_wp2_with fail
            refine (CH.out _ hE).mono ?_; rintro x w3 ⟨rfl, hx3⟩
            have hF3 : Ext (w.alloc (.cells #[.int .i64 0, .int .i64 0] 25)) (w3.alloc (.cells #[.string (Y 0), .string (Y 1), .string (Y 2), .string (Y 3), .string (Y 4), .int .u8 kq, .int .i64 (Q 0), .int .i64 (Q 1), .int .i64 (Q 2), .int .i64 (Q 3), .int .i64 (Q 4), .int .i64 (Q 5), .int .i64 (Q 6)] 75)) := (hF.trans hx3).alloc _
            obtain ⟨r1, r2, r3, r4, r5⟩ := res_boxQ (hF3)
            go_wp2_with fail
            obtain ⟨s0, s1⟩ := res_putQ r1 r2 (.int .i64 k) (.int .i64 (j : Int))
            exact bodyPost_ret (v := .tuple #[.string ⟨#[]⟩, .agg #[.int .i64 k, .int .i64 (j : Int)]]) (by simp [results, Tryz.results11, go_sem, s0, s1]) rfl ⟨by rw [HRj.out], ((hw0.trans (hF3)).setCell (Nat.le_refl _) _).setCell (Nat.le_refl _) _⟩
      · obtain rfl : j = n := by omega
        have hj0 : 0 < j := by omega
        obtain ⟨g, hra, hrc, hcs⟩ := ownR_at HO.out hj0
        have c7 : wr.cell? ⟨g, 7, none⟩ = some (.int .i64 (N 0 1)) := by
          have h := hcs 7 _ rfl
          rw [Nat.zero_mul, Nat.zero_add] at h
          exact h
        obtain ⟨b1, b2, b3⟩ := Hr.out 0 hj0 (cdV_zero (HZ.out 0 hj0)).1
        obtain ⟨u, hu⟩ : ∃ u : Nat, N 0 1 = (u : Int) := ⟨(N 0 1).toNat, by omega⟩
        have hU0 : Hid (U 0 = (u : Int)) := Lib.hid (by rw [← HUM.out.1 0, hu])
        have hu20 : u ≤ 20 := by omega
        rw [hu] at c7
        have qj : decide ((0 : Int) < (j : Int)) = true := decide_eq_true (by omega)
        have qjn : decide (0 < j) = true := decide_eq_true hj0
        have hgl := World.block_lt_of_cell? _ _ c7
        subst hra
        have HD : Hid (∀ i, i < j → (T i).extract 512 (512 + N i 3).toNat = D i ∧ 0 ≤ N i 3 ∧ 512 + N i 3 ≤ ((T i).size : Int) ∧ (D i).size ≤ 40000) := Lib.hid (fun i hi => by
          have h := HV.out i hi
          rw [(cdV_zero (HZ.out i hi)).1] at h
          exact refV_good h (hT i hi))
        have hcz := Lib.hid (fun (k : Nat) (hk : k ≤ u) => catQ_le (M := M) (D := D) (n := j) (u := u) (fun i hi => (HD.out i hi).2.2.2) k hk)
        have HTz := Lib.hid hT
        clear hcs hu b1 b2 b3 C8 HV hT
        go_wp2_with fail
        go_loopw [14, 134] (fun o i wq => ∃ k : Nat, k ≤ u ∧ (∀ i, i < k → (pickD M D j (i : Int)).isSome = true) ∧ o = .string (catF (pickB M D j) ⟨#[]⟩ k) ∧ i = .int .i64 (k : Int) ∧ Ext wr wq) (fun _ i _ => u - (intOf i).toNat)
        case atStart => exact ⟨0, Nat.zero_le _, (fun i h => absurd h (Nat.not_lt_zero _)), rfl, rfl, Ext.refl _⟩
        case round =>
          rename World => wq
          obtain ⟨k, hk, hz2, rfl, rfl, hx6⟩ := hrel
          have HZ2 := Lib.hid hz2
          clear hz2
          have hC := hcz.out k (by omega)
          have hC2 : k * 40000 ≤ 20 * 40000 := Nat.mul_le_mul (by omega) (Nat.le_refl _)
          by_cases hlk : k < u
          · generalize hCk : catF (pickB M D j) ⟨#[]⟩ k = C at *
            have HCk := Lib.hid hCk
            clear hCk
            go_wp2_with fail
            go_loopw [14, 16, 139] (fun o fd i wp => ∃ m : Nat, m ≤ j ∧ o = .string (C ++ (pickD M D m (k : Int)).getD ⟨#[]⟩) ∧ fd = .bool (pickD M D m (k : Int)).isSome ∧ i = .int .i64 (m : Int) ∧ Ext wq wp) (fun _ _ i _ => j - (intOf i).toNat)
            case atStart => exact ⟨0, Nat.zero_le _, by rw [pickD_zero]; show Value.string C = .string (C ++ ⟨#[]⟩); rw [appQ_nil], by rw [pickD_zero]; rfl, rfl, Ext.refl _⟩
            case round =>
              rename World => wp
              obtain ⟨m, hm, rfl, rfl, rfl, hx7⟩ := hrel
              generalize hOO : C ++ (pickD M D m (k : Int)).getD ⟨#[]⟩ = O at *
              generalize hfd : (pickD M D m (k : Int)).isSome = fd at *
              have HOO := Lib.hid hOO
              have Hfd := Lib.hid hfd
              have hOz : O.size ≤ 2000000 := by
                rw [← hOO, ByteArray.size_append]
                have : ((pickD M D m (k : Int)).getD ⟨#[]⟩).size ≤ 40000 := pickD_le m (fun i hi => (HD.out i (by omega)).2.2.2)
                have h2 : k * 40000 ≤ 20 * 40000 := Nat.mul_le_mul (by omega) (Nat.le_refl _)
                omega
              clear hOO hfd
              by_cases hlm : m < j
              · obtain ⟨g', hra', _, hcs⟩ := ownR_at HO.out hlm
                injection hra' with hra'
                injection hra' with hra' _ _
                subst hra'
                have hrq := hx6.trans hx7
                have g0 : wp.cell? ⟨g, m * 13, none⟩ = some (.string (X m 0)) := hrq.cell (hcs 0 _ rfl)
                have g1 : wp.cell? ⟨g, m * 13 + 1, none⟩ = some (.string (X m 1)) := hrq.cell (hcs 1 _ rfl)
                have g2 : wp.cell? ⟨g, m * 13 + 2, none⟩ = some (.string (X m 2)) := hrq.cell (hcs 2 _ rfl)
                have g3 : wp.cell? ⟨g, m * 13 + 3, none⟩ = some (.string (X m 3)) := hrq.cell (hcs 3 _ rfl)
                have g4 : wp.cell? ⟨g, m * 13 + 4, none⟩ = some (.string (X m 4)) := hrq.cell (hcs 4 _ rfl)
                have g5 : wp.cell? ⟨g, m * 13 + 5, none⟩ = some (.int .u8 (kd m)) := hrq.cell (hcs 5 _ rfl)
                have g6 : wp.cell? ⟨g, m * 13 + 6, none⟩ = some (.int .i64 (N m 0)) := hrq.cell (hcs 6 _ rfl)
                have g7 : wp.cell? ⟨g, m * 13 + 7, none⟩ = some (.int .i64 (N m 1)) := hrq.cell (hcs 7 _ rfl)
                have g8 : wp.cell? ⟨g, m * 13 + 8, none⟩ = some (.int .i64 (N m 2)) := hrq.cell (hcs 8 _ rfl)
                have g9 : wp.cell? ⟨g, m * 13 + 9, none⟩ = some (.int .i64 (N m 3)) := hrq.cell (hcs 9 _ rfl)
                have g10 : wp.cell? ⟨g, m * 13 + 10, none⟩ = some (.int .i64 (N m 4)) := hrq.cell (hcs 10 _ rfl)
                have g11 : wp.cell? ⟨g, m * 13 + 11, none⟩ = some (.int .i64 (N m 5)) := hrq.cell (hcs 11 _ rfl)
                have g12 : wp.cell? ⟨g, m * 13 + 12, none⟩ = some (.int .i64 (N m 6)) := hrq.cell (hcs 12 _ rfl)
                obtain ⟨b, off, hoa, hc⟩ := Hat.out m hlm
                have hcw := ((hE.trans hx6).trans hx7).cell hc
                subst hoa
                obtain ⟨d1, d2, d3, d4⟩ := HD.out m hlm
                have hst := Lib.hid (pickD_succ M D m (k : Int) (fun i hi => (cdV_zero (HZ.out m hlm)).2.2 i hi))
                have hbl := World.block_lt_of_cell? _ _ hcw
                have d5 : (512 : Int) ≤ 512 + N m 3 := by omega
                have hTm := HTz.out m hlm
                have HD4 := Lib.hid d4
                have HD1 := Lib.hid d1
                clear hcs hc d4 d1
                by_cases hmk : N m 0 = (k : Int)
                · have q1 : (N m 0 == (k : Int)) = true := by rw [hmk, beq_self_eq_true]
                  have HT : Hid (O ++ (T m).extract 512 (512 + N m 3).toNat = C ++ (pickD M D (m + 1) (k : Int)).getD ⟨#[]⟩ ∧ (pickD M D (m + 1) (k : Int)).isSome = true) := Lib.hid (by
                    have hkM : (k : Int) = M m := by rw [← HUM.out.2 m, hmk]
                    have hnone : pickD M D m (k : Int) = none := by
                      cases hp : pickD M D m (k : Int) with
                      | none => rfl
                      | some y =>
                        obtain ⟨i, hi, hMi⟩ := pickD_some (M := M) (D := D) (n := m) (k := (k : Int)) (by rw [hp]; rfl)
                        exact absurd (hMi.trans hkM) ((cdV_zero (HZ.out m hlm)).2.2 i hi)
                    rw [hst.out, if_pos hkM, ← HOO.out, hnone, HD1.out]
                    exact ⟨by show C ++ ⟨#[]⟩ ++ D m = C ++ D m; rw [appQ_nil], rfl⟩)
                  have k9 : (wp.alloc (.cells #[.string (X m 0), .string (X m 1), .string (X m 2), .string (X m 3), .string (X m 4), .int .u8 (kd m), .int .i64 (N m 0), .int .i64 (N m 1), .int .i64 (N m 2), .int .i64 (N m 3), .int .i64 (N m 4), .int .i64 (N m 5), .int .i64 (N m 6)] 75)).cell? ⟨wp.heap.size, 9, none⟩ = some (.int .i64 (N m 3)) := by simp
                  have kt : (wp.alloc (.cells #[.string (X m 0), .string (X m 1), .string (X m 2), .string (X m 3), .string (X m 4), .int .u8 (kd m), .int .i64 (N m 0), .int .i64 (N m 1), .int .i64 (N m 2), .int .i64 (N m 3), .int .i64 (N m 4), .int .i64 (N m 5), .int .i64 (N m 6)] 75)).cell? ⟨b, off + m, none⟩ = some (.string (T m)) := ((Ext.refl wp).alloc _).cell hcw
                  clear hmk
                  go_wp2_with fail
                  refine wp_region_det (Stood _) (by kernel_rfl) (by kernel_rfl) (Stood.start _) ?_
                  repeat (first
                    | (refine det_skip (by rfl) ?_; simp only [Act.put, List.setIfInBounds_toArray, List.set_cons_zero, List.set_cons_succ])
                    | (refine det_op (v := ?_) rfl (by rfl) (fun w' hS => ?_) ?_; rotate_left; (focus (obtain ⟨hcl, hxt⟩ := hS; go_wp2_with (fail); (first | refine ⟨?_, rfl, hcl, hxt⟩ | refine ⟨?_, rfl, Stood.of (hxt.trans (by assumption))⟩); (first | (simp only [List.getElem?_toArray, List.getElem?_cons_succ, List.getElem?_cons_zero]; rfl) | rfl))); simp only [Act.put, List.setIfInBounds_toArray, List.set_cons_zero, List.set_cons_succ]))
                  refine det_end ?_
                  intro w8 hS
                  have hx8 := hS.2
                  clear hS k9 kt
                  go_wp2_with fail
                  go_roundw
                  case rel => exact ⟨m + 1, hlm, by rw [← HT.out.1], by rw [HT.out.2], by go_num, (hx7.alloc _).trans hx8⟩
                  case measure => simp [intOf]; omega
                · have q1 : (N m 0 == (k : Int)) = false := by simpa using hmk
                  have HT : Hid (O = C ++ (pickD M D (m + 1) (k : Int)).getD ⟨#[]⟩ ∧ fd = (pickD M D (m + 1) (k : Int)).isSome) := Lib.hid (by
                    have hkM : ¬ (k : Int) = M m := fun h => hmk (by rw [HUM.out.2 m, h])
                    rw [hst.out, if_neg hkM]
                    exact ⟨HOO.out.symm, Hfd.out.symm⟩)
                  clear hmk
                  go_wp2_with fail
                  go_roundw
                  case rel => exact ⟨m + 1, hlm, by rw [← HT.out.1], by rw [← HT.out.2], by go_num, hx7.alloc _⟩
                  case measure => simp [intOf]; omega
              · obtain rfl : m = j := by omega
                have hrM : ∀ i, i < m → E i = 0 → 0 ≤ M i ∧ M i < U i := fun i hi he => by
                  obtain ⟨a1, a2, _⟩ := Hr.out i hi he
                  rw [HUM.out.2 i] at a1 a2
                  rw [HUM.out.1 i] at a2
                  exact ⟨a1, a2⟩
                have HrM := Lib.hid hrM
                clear hrM
                cases fd with
                | true =>
                  have HT : Hid (O = catF (pickB M D m) ⟨#[]⟩ (k + 1)) := Lib.hid (by rw [← HOO.out, ← HCk.out]; rfl)
                  have HZ3 : Hid (∀ i, i < k + 1 → (pickD M D m (i : Int)).isSome = true) := Lib.hid (fun i hi => by
                    rcases Nat.lt_succ_iff_lt_or_eq.1 hi with h1 | rfl
                    · exact HZ2.out i h1
                    · exact Hfd.out)
                  go_wp2_with fail
                  go_roundw
                  case rel => exact ⟨k + 1, hlk, HZ3.out, by rw [← HT.out], by go_num, hx6.trans hx7⟩
                  case measure => simp [intOf]; omega
                | false =>
                  have HRj : Hid (R = ⟨⟨#[]⟩, 7, -1⟩) := Lib.hid (by
                    rw [HRe.out, joinT_miss hj0 HZ.out (miss_num HZ.out HrM.out (k := k) (by rw [hU0.out]; omega) Hfd.out)])
                  have hF7 := (hF.trans hx6).trans hx7
                  go_wp2_with fail
                  refine (C7.out _).mono ?_; rintro x w8 ⟨rfl, hx8⟩
                  obtain ⟨r1, r2, r3, r4, r5⟩ := res_boxQ (hF7.trans hx8)
                  go_wp2_with fail
                  obtain ⟨s0, s1⟩ := res_putQ r1 r2 (.int .i64 7) (.int .i64 (-1))
                  exact bodyPost_ret (v := .tuple #[.string ⟨#[]⟩, .agg #[.int .i64 7, .int .i64 (-1)]]) (by simp [results, Tryz.results11, go_sem, s0, s1]) rfl ⟨by rw [HRj.out], ((hw0.trans (hF7.trans hx8)).setCell (Nat.le_refl _) _).setCell (Nat.le_refl _) _⟩
          · obtain rfl : k = u := by omega
            have HRj : Hid (R = ⟨catF (pickB M D j) ⟨#[]⟩ k, 0, -1⟩) := Lib.hid (by
              have hrM : ∀ i, i < j → E i = 0 → 0 ≤ M i ∧ M i < U i := fun i hi he => by
                obtain ⟨a1, a2, _⟩ := Hr.out i hi he
                rw [HUM.out.2 i] at a1 a2
                rw [HUM.out.1 i] at a2
                exact ⟨a1, a2⟩
              have h0 : (U 0).toNat = k := by rw [hU0.out]; rfl
              rw [HRe.out, joinT_good hj0 HZ.out (met_num HZ.out hrM (by rw [hU0.out]; omega) (by rw [h0]; exact HZ2.out)), h0])
            have hF6 := hF.trans hx6
            generalize catF (pickB M D j) ⟨#[]⟩ k = C at *
            go_wp2_with fail
            refine (CG.out _).mono ?_; rintro x w8 ⟨rfl, hx8⟩
            obtain ⟨r1, r2, r3, r4, r5⟩ := res_boxQ (hF6.trans hx8)
            go_wp2_with fail
            obtain ⟨s0, s1⟩ := res_putQ r1 r2 (.int .i64 0) (.int .i64 (-1))
            exact bodyPost_ret (v := .tuple #[.string C, .agg #[.int .i64 0, .int .i64 (-1)]]) (by simp [results, Tryz.results11, go_sem, s0, s1]) rfl ⟨by rw [HRj.out], ((hw0.trans (hF6.trans hx8)).setCell (Nat.le_refl _) _).setCell (Nat.le_refl _) _⟩
end Go.Proofs.YtiiaoagobjgkiaaGreatDoor
