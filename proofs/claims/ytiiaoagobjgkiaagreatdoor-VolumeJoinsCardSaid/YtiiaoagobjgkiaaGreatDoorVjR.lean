/-
  volume.read: its walk, over what head.Read gives. No conditions but the text's length.
-/
import Derived.Test.YtiiaoagobjgkiaaGreatDoorHrP
import Derived.Test.YtiiaoagobjgkiaaGreatDoorFill
import Derived.Test.YtiiaoagobjgkiaaGreatDoorDetS
namespace Go.Proofs.YtiiaoagobjgkiaaGreatDoor
open Go.RowKit Go.WideShapes

def volNm : ByteArray := ⟨#[86, 79, 76, 85, 77, 69]⟩
/-- A header is a volume's. -/
def volH (X : Nat → ByteArray) (kd : Int) (N : Nat → Int) : Prop := X 0 = volNm ∧ kd = 77 ∧ 1 ≤ N 1 ∧ N 1 ≤ 20 ∧ 0 ≤ N 0 ∧ N 0 < N 1
/-- What follows is a volume's. -/
def volD (R : ByteArray) (N : Nat → Int) : Prop := 0 ≤ N 3 ∧ N 3 ≤ (R.size : Int) ∧ R = R.extract 0 (N 3).toNat ++ padB (N 3).toNat
def badV (k : Int) : Value := .tuple #[.agg (rowRaw noX 0 noN), .string ⟨#[]⟩, errOf k]
theorem badV_eq {k : Int} (h : k ≠ 0) : badV k = .tuple #[.agg (rowRaw noX 0 noN), .string ⟨#[]⟩, .iface 23 (.int .i64 k)] := by unfold badV; rw [errOf_ne h]
theorem results_vol {w : World} {g : Nat} {cs : Array Value} {tmps : Array Value} {b c : Value} (hp : tmps.getD 2 undef = .pointer (some ⟨g, 0, none⟩)) (h3 : tmps.getD 3 undef = b) (h4 : tmps.getD 4 undef = c) (hn : cs.size = 13) (hg : w.heap[g]? = some (.cells cs 82 (0, 0))) :
    (results Tryz.f41 tmps).run Tryz.prog w = .ok (.tuple #[.agg cs, b, c]) w := by
  have hp' : tmps[2]?.getD undef = .pointer (some ⟨g, 0, none⟩) := by simpa using hp
  have h3' : tmps[3]?.getD undef = b := by simpa using h3
  have h4' : tmps[4]?.getD undef = c := by simpa using h4
  simp [results, Tryz.results41, hp', h3', h4', asAddr, run_loadVar_row w g 82 82 cs (0, 0) _ hg Tryz.underlying82 rfl (by rw [hn]; exact rawInfo)]
set_option maxHeartbeats 1600000 in
set_option maxRecDepth 100000 in
theorem volRead_small (s : ByteArray) (h : s.size < 512) (w : World) : Calls Tryz.prog 41 #[.string s] w fun e w' => e = .returned (badV 3) ∧ Ext w w' := by
  have q : decide ((s.size : Int) < 512) = true := decide_eq_true (by omega)
  rw [badV_eq (by decide)]
  clear h
  go_enter Tryz.func41, Tryz.ntmps41
  go_wp2_with fail
  go_returns
  exact ⟨rfl, (by show Below _ _ _; repeat' (first | (with_reducible exact Below.refl _ _) | (with_reducible assumption) | (with_reducible refine belowDrewN ?_ _) | (with_reducible refine Below.alloc ?_ ?_ _) | (with_reducible refine Below.drew ?_) | (with_reducible refine Below.setCell ?_ ?_ _) | go_size))⟩
set_option maxHeartbeats 1600000 in
set_option maxRecDepth 100000 in
theorem volRead_err (s : ByteArray) (hs : s.size ≤ 40000) (h : 512 ≤ s.size) (X : Nat → ByteArray) (kd : Int) (N : Nat → Int) (d k : Int) (C : ∀ w, HasMax w → Calls Tryz.prog 78 #[.string (s.extract 0 512)] w fun e w' => e = .returned (.tuple #[.agg (rowRaw X kd N), .int .i64 d, errOf k]) ∧ Ext w w') (hk : k ≠ 0) (w : World) (hm : HasMax w) :
    Calls Tryz.prog 41 #[.string s] w fun e w' => e = .returned (badV k) ∧ Ext w w' := by
  have q : decide ((s.size : Int) < 512) = false := decide_eq_false (by omega)
  have q2 : (512 : Int) ≤ (s.size : Int) := by omega
  rw [badV_eq hk]
  rw [errOf_ne hk] at C
  unfold rowRaw at C
  have CH := Lib.hid C
  have hw0 : Ext w (w.alloc (.cells (rowRaw noX 0 noN) 82)) := (Ext.refl w).alloc _
  clear h C hk
  go_enter Tryz.func41, Tryz.ntmps41
  go_wp2_with fail
  refine (CH.out _ (hm.ext hw0)).mono ?_; rintro e w1 ⟨rfl, hx1⟩
  have hx2 : Ext (w.alloc (.cells (rowRaw noX 0 noN) 82)) (w1.alloc (.cells #[.string (X 0), .string (X 1), .string (X 2), .string (X 3), .string (X 4), .int .u8 kd, .int .i64 (N 0), .int .i64 (N 1), .int .i64 (N 2), .int .i64 (N 3), .int .i64 (N 4), .int .i64 (N 5), .int .i64 (N 6)] 82)) := hx1.alloc _
  have HR0 := Lib.hid (show (w1.alloc (.cells #[.string (X 0), .string (X 1), .string (X 2), .string (X 3), .string (X 4), .int .u8 kd, .int .i64 (N 0), .int .i64 (N 1), .int .i64 (N 2), .int .i64 (N 3), .int .i64 (N 4), .int .i64 (N 5), .int .i64 (N 6)] 82)).heap[w.heap.size]? = some (.cells (rowRaw noX 0 noN) 82 (0, 0)) from (hx2.block _ (by simp)).trans (World.alloc_heap_new w _))
  go_wp2_with (refine wpList_store_row rfl 82 (.tmp 2) (.tmp 23) rfl w.heap.size (rowRaw noX 0 noN) rfl rfl 82 _ HR0.out rawInfo rfl (rowRaw_one _ _ _) ?_)
  exact bodyPost_ret (v := .tuple #[.agg (rowRaw noX 0 noN), .string ⟨#[]⟩, .iface 23 (.int .i64 k)]) (results_vol (by rfl) (by rfl) (by rfl) rfl (setRow_heap _ _ _ _ _ _ HR0.out)) rfl ⟨rfl, below_setRow (hw0.trans hx2) (Nat.le_refl _) _⟩
/-- The cases. -/
theorem vrow_cell {w : World} {g i : Nat} {cs : Array Value} {t : TypeId} {v : Value} (h : w.heap[g]? = some (.cells cs t (0, 0))) (hi : cs[i]? = some v) : w.cell? ⟨g, i, none⟩ = some v := by simp [World.cell?, h, hi]
theorem toList_inj {a b : ByteArray} (h : a.toList = b.toList) : a = b := by
  apply ByteArray.ext
  apply Array.toList_inj.1
  rw [← ByteArray.toList_eq, ← ByteArray.toList_eq]
  exact h
set_option maxHeartbeats 4000000 in
set_option maxRecDepth 100000 in
theorem volRead_bad (s : ByteArray) (hs : s.size ≤ 40000) (h : 512 ≤ s.size) (X : Nat → ByteArray) (kd : Int) (N : Nat → Int) (d : Int) (C : ∀ w, HasMax w → Calls Tryz.prog 78 #[.string (s.extract 0 512)] w fun e w' => e = .returned (.tuple #[.agg (rowRaw X kd N), .int .i64 d, .nilIface]) ∧ Ext w w') (hb : ¬ (volH X kd N ∧ volD (s.extract 512 s.size) N)) (w : World) (hm : HasMax w) :
    Calls Tryz.prog 41 #[.string s] w fun e w' => e = .returned (badV 3) ∧ Ext w w' := by
  have q : decide ((s.size : Int) < 512) = false := decide_eq_false (by omega)
  have q2 : (512 : Int) ≤ (s.size : Int) := by omega
  rw [badV_eq (by decide)]
  unfold rowRaw at C
  have CH := Lib.hid C
  have hw0 : Ext w (w.alloc (.cells (rowRaw noX 0 noN) 82)) := (Ext.refl w).alloc _
  obtain ⟨R, hR⟩ : ∃ R, R = s.extract 512 s.size := ⟨_, rfl⟩
  rw [← hR] at hb
  try rw [← hR]
  have HB := Lib.hid hb
  have hRz : R.size = s.size - 512 := by rw [hR, ByteArray.size_extract]; omega
  have CF := Lib.hid (fun (n : Nat) w => fill_any (R.extract 0 n) (by rw [ByteArray.size_extract]; omega) w)
  have HRx := Lib.hid hR
  clear hR
  clear h C hb
  go_enter Tryz.func41, Tryz.ntmps41
  go_wp2_with fail
  refine (CH.out _ (hm.ext hw0)).mono ?_; rintro e w1 ⟨rfl, hx1⟩
  have hx2 : Ext (w.alloc (.cells (rowRaw noX 0 noN) 82)) (w1.alloc (.cells #[.string (X 0), .string (X 1), .string (X 2), .string (X 3), .string (X 4), .int .u8 kd, .int .i64 (N 0), .int .i64 (N 1), .int .i64 (N 2), .int .i64 (N 3), .int .i64 (N 4), .int .i64 (N 5), .int .i64 (N 6)] 82)) := hx1.alloc _
  have HR0 := Lib.hid (show (w1.alloc (.cells #[.string (X 0), .string (X 1), .string (X 2), .string (X 3), .string (X 4), .int .u8 kd, .int .i64 (N 0), .int .i64 (N 1), .int .i64 (N 2), .int .i64 (N 3), .int .i64 (N 4), .int .i64 (N 5), .int .i64 (N 6)] 82)).heap[w.heap.size]? = some (.cells (rowRaw noX 0 noN) 82 (0, 0)) from (hx2.block _ (by simp)).trans (World.alloc_heap_new w _))
  have hne : w1.heap.size ≠ w.heap.size := by
    have := hx1.size
    rw [World.size_alloc] at this
    omega
  clear hx1
  go_upto_region 7 with fail
  rw [← HRx.out]
  have hRi : (R.size : Int) ≤ 40000 := by omega
  clear hRz
  by_cases h0 : X 0 = volNm
  · have t0 : ((X 0).toList == [86, 79, 76, 85, 77, 69]) = true := by rw [h0]; decide +kernel
    by_cases h1 : kd = 77
    · have t1 : (kd != 77) = false := by rw [h1]; rfl
      by_cases h2 : 1 ≤ N 1
      · have t2 : decide (N 1 < 1) = false := decide_eq_false (by omega)
        by_cases h3 : N 1 ≤ 20
        · have t3 : decide (20 < N 1) = false := decide_eq_false (by omega)
          by_cases h4 : 0 ≤ N 0
          · have t4 : decide (N 0 < 0) = false := decide_eq_false (by omega)
            by_cases h5 : N 0 < N 1
            · have t5 : decide (N 1 ≤ N 0) = false := decide_eq_false (by omega)
              by_cases h6 : 0 ≤ N 3
              · have t6 : decide (N 3 < 0) = false := decide_eq_false (by omega)
                by_cases h7 : N 3 ≤ (R.size : Int)
                · have t7 : decide ((R.size : Int) < N 3) = false := decide_eq_false (by omega)
                  have hsz : (R.extract 0 (N 3).toNat).size = (N 3).toNat := by rw [ByteArray.size_extract]; omega
                  have cf := fun w => CF.out (N 3).toNat w
                  rw [hsz] at cf
                  have Cf := Lib.hid cf
                  have hpd := padB_size (N 3).toNat
                  have t8 : (R.toList == (R.extract 0 (N 3).toNat ++ padB (N 3).toNat).toList) = false := by
                    rw [beq_eq_false_iff_ne]
                    intro e
                    exact HB.out ⟨⟨h0, h1, h2, h3, h4, h5⟩, h6, h7, toList_inj e⟩
                  clear HB CF cf h0 h1 h2 h3 h4 h5
                  generalize padB (N 3).toNat = P at *
                  go_wp2_with fail
                  refine (Cf.out _).mono ?_; rintro e w3 ⟨rfl, hx3⟩
                  have hx4 := hx2.trans hx3
                  have HR3 := Lib.hid ((hx3.block _ (lt_of_block HR0.out)).trans HR0.out)
                  go_wp2_with (refine wpList_store_row rfl 82 (.tmp 2) (.tmp 66) rfl w.heap.size (rowRaw noX 0 noN) rfl rfl 82 _ HR3.out rawInfo rfl (rowRaw_one _ _ _) ?_)
                  exact bodyPost_ret (v := .tuple #[.agg (rowRaw noX 0 noN), .string ⟨#[]⟩, .iface 23 (.int .i64 3)]) (results_vol (by rfl) (by rfl) (by rfl) rfl (setRow_heap _ _ _ _ _ _ HR3.out)) rfl ⟨rfl, below_setRow (hw0.trans hx4) (Nat.le_refl _) _⟩
                · have t7 : decide ((R.size : Int) < N 3) = true := decide_eq_true (by omega)
                  clear HB CF
                  clear h0 h1 h2 h3 h4 h5 h6 h7
                  go_wp2_with (refine wpList_store_row rfl 82 (.tmp 2) (.tmp 66) rfl w.heap.size (rowRaw noX 0 noN) rfl rfl 82 _ HR0.out rawInfo rfl (rowRaw_one _ _ _) ?_)
                  exact bodyPost_ret (v := .tuple #[.agg (rowRaw noX 0 noN), .string ⟨#[]⟩, .iface 23 (.int .i64 3)]) (results_vol (by rfl) (by rfl) (by rfl) rfl (setRow_heap _ _ _ _ _ _ HR0.out)) rfl ⟨rfl, below_setRow (hw0.trans hx2) (Nat.le_refl _) _⟩
              · have t6 : decide (N 3 < 0) = true := decide_eq_true (by omega)
                clear HB CF
                clear h0 h1 h2 h3 h4 h5 h6
                go_wp2_with (refine wpList_store_row rfl 82 (.tmp 2) (.tmp 66) rfl w.heap.size (rowRaw noX 0 noN) rfl rfl 82 _ HR0.out rawInfo rfl (rowRaw_one _ _ _) ?_)
                exact bodyPost_ret (v := .tuple #[.agg (rowRaw noX 0 noN), .string ⟨#[]⟩, .iface 23 (.int .i64 3)]) (results_vol (by rfl) (by rfl) (by rfl) rfl (setRow_heap _ _ _ _ _ _ HR0.out)) rfl ⟨rfl, below_setRow (hw0.trans hx2) (Nat.le_refl _) _⟩
            · have t5 : decide (N 1 ≤ N 0) = true := decide_eq_true (by omega)
              clear HB CF
              clear h0 h1 h2 h3 h4 h5
              go_wp2_with (refine wpList_store_row rfl 82 (.tmp 2) (.tmp 48) rfl w.heap.size (rowRaw noX 0 noN) rfl rfl 82 _ HR0.out rawInfo rfl (rowRaw_one _ _ _) ?_)
              exact bodyPost_ret (v := .tuple #[.agg (rowRaw noX 0 noN), .string ⟨#[]⟩, .iface 23 (.int .i64 3)]) (results_vol (by rfl) (by rfl) (by rfl) rfl (setRow_heap _ _ _ _ _ _ HR0.out)) rfl ⟨rfl, below_setRow (hw0.trans hx2) (Nat.le_refl _) _⟩
          · have t4 : decide (N 0 < 0) = true := decide_eq_true (by omega)
            clear HB CF
            clear h0 h1 h2 h3 h4
            go_wp2_with (refine wpList_store_row rfl 82 (.tmp 2) (.tmp 48) rfl w.heap.size (rowRaw noX 0 noN) rfl rfl 82 _ HR0.out rawInfo rfl (rowRaw_one _ _ _) ?_)
            exact bodyPost_ret (v := .tuple #[.agg (rowRaw noX 0 noN), .string ⟨#[]⟩, .iface 23 (.int .i64 3)]) (results_vol (by rfl) (by rfl) (by rfl) rfl (setRow_heap _ _ _ _ _ _ HR0.out)) rfl ⟨rfl, below_setRow (hw0.trans hx2) (Nat.le_refl _) _⟩
        · have t3 : decide (20 < N 1) = true := decide_eq_true (by omega)
          clear HB CF
          clear h0 h1 h2 h3
          go_wp2_with (refine wpList_store_row rfl 82 (.tmp 2) (.tmp 48) rfl w.heap.size (rowRaw noX 0 noN) rfl rfl 82 _ HR0.out rawInfo rfl (rowRaw_one _ _ _) ?_)
          exact bodyPost_ret (v := .tuple #[.agg (rowRaw noX 0 noN), .string ⟨#[]⟩, .iface 23 (.int .i64 3)]) (results_vol (by rfl) (by rfl) (by rfl) rfl (setRow_heap _ _ _ _ _ _ HR0.out)) rfl ⟨rfl, below_setRow (hw0.trans hx2) (Nat.le_refl _) _⟩
      · have t2 : decide (N 1 < 1) = true := decide_eq_true (by omega)
        clear HB CF
        clear h0 h1 h2
        go_wp2_with (refine wpList_store_row rfl 82 (.tmp 2) (.tmp 48) rfl w.heap.size (rowRaw noX 0 noN) rfl rfl 82 _ HR0.out rawInfo rfl (rowRaw_one _ _ _) ?_)
        exact bodyPost_ret (v := .tuple #[.agg (rowRaw noX 0 noN), .string ⟨#[]⟩, .iface 23 (.int .i64 3)]) (results_vol (by rfl) (by rfl) (by rfl) rfl (setRow_heap _ _ _ _ _ _ HR0.out)) rfl ⟨rfl, below_setRow (hw0.trans hx2) (Nat.le_refl _) _⟩
    · have t1 : (kd != 77) = true := by simpa using h1
      clear HB CF
      clear h0 h1
      go_wp2_with (refine wpList_store_row rfl 82 (.tmp 2) (.tmp 48) rfl w.heap.size (rowRaw noX 0 noN) rfl rfl 82 _ HR0.out rawInfo rfl (rowRaw_one _ _ _) ?_)
      exact bodyPost_ret (v := .tuple #[.agg (rowRaw noX 0 noN), .string ⟨#[]⟩, .iface 23 (.int .i64 3)]) (results_vol (by rfl) (by rfl) (by rfl) rfl (setRow_heap _ _ _ _ _ _ HR0.out)) rfl ⟨rfl, below_setRow (hw0.trans hx2) (Nat.le_refl _) _⟩
  · have t0 : ((X 0).toList == [86, 79, 76, 85, 77, 69]) = false := by
      rw [beq_eq_false_iff_ne]
      intro e
      exact h0 (toList_inj (e.trans (by decide +kernel)))
    clear HB CF
    clear h0
    go_wp2_with (refine wpList_store_row rfl 82 (.tmp 2) (.tmp 48) rfl w.heap.size (rowRaw noX 0 noN) rfl rfl 82 _ HR0.out rawInfo rfl (rowRaw_one _ _ _) ?_)
    exact bodyPost_ret (v := .tuple #[.agg (rowRaw noX 0 noN), .string ⟨#[]⟩, .iface 23 (.int .i64 3)]) (results_vol (by rfl) (by rfl) (by rfl) rfl (setRow_heap _ _ _ _ _ _ HR0.out)) rfl ⟨rfl, below_setRow (hw0.trans hx2) (Nat.le_refl _) _⟩
set_option maxHeartbeats 4000000 in
set_option maxRecDepth 100000 in
theorem volRead_good (s : ByteArray) (hs : s.size ≤ 40000) (h : 512 ≤ s.size) (X : Nat → ByteArray) (kd : Int) (N : Nat → Int) (d : Int) (C : ∀ w, HasMax w → Calls Tryz.prog 78 #[.string (s.extract 0 512)] w fun e w' => e = .returned (.tuple #[.agg (rowRaw X kd N), .int .i64 d, .nilIface]) ∧ Ext w w') (hb : volH X kd N ∧ volD (s.extract 512 s.size) N) (w : World) (hm : HasMax w) :
    Calls Tryz.prog 41 #[.string s] w fun e w' => e = .returned (.tuple #[.agg (rowRaw X kd N), .string ((s.extract 512 s.size).extract 0 (N 3).toNat), .nilIface]) ∧ Ext w w' := by
  have q : decide ((s.size : Int) < 512) = false := decide_eq_false (by omega)
  have q2 : (512 : Int) ≤ (s.size : Int) := by omega
  unfold rowRaw at C
  have CH := Lib.hid C
  have hw0 : Ext w (w.alloc (.cells (rowRaw noX 0 noN) 82)) := (Ext.refl w).alloc _
  obtain ⟨R, hR⟩ : ∃ R, R = s.extract 512 s.size := ⟨_, rfl⟩
  rw [← hR] at hb
  try rw [← hR]
  have HB := Lib.hid hb
  have hRz : R.size = s.size - 512 := by rw [hR, ByteArray.size_extract]; omega
  have CF := Lib.hid (fun (n : Nat) w => fill_any (R.extract 0 n) (by rw [ByteArray.size_extract]; omega) w)
  have HRx := Lib.hid hR
  clear hR
  clear h C hb
  go_enter Tryz.func41, Tryz.ntmps41
  go_wp2_with fail
  refine (CH.out _ (hm.ext hw0)).mono ?_; rintro e w1 ⟨rfl, hx1⟩
  have hx2 : Ext (w.alloc (.cells (rowRaw noX 0 noN) 82)) (w1.alloc (.cells #[.string (X 0), .string (X 1), .string (X 2), .string (X 3), .string (X 4), .int .u8 kd, .int .i64 (N 0), .int .i64 (N 1), .int .i64 (N 2), .int .i64 (N 3), .int .i64 (N 4), .int .i64 (N 5), .int .i64 (N 6)] 82)) := hx1.alloc _
  have HR0 := Lib.hid (show (w1.alloc (.cells #[.string (X 0), .string (X 1), .string (X 2), .string (X 3), .string (X 4), .int .u8 kd, .int .i64 (N 0), .int .i64 (N 1), .int .i64 (N 2), .int .i64 (N 3), .int .i64 (N 4), .int .i64 (N 5), .int .i64 (N 6)] 82)).heap[w.heap.size]? = some (.cells (rowRaw noX 0 noN) 82 (0, 0)) from (hx2.block _ (by simp)).trans (World.alloc_heap_new w _))
  have hne : w1.heap.size ≠ w.heap.size := by
    have := hx1.size
    rw [World.size_alloc] at this
    omega
  clear hx1
  go_upto_region 7 with fail
  rw [← HRx.out]
  have hRi : (R.size : Int) ≤ 40000 := by omega
  clear hRz
  obtain ⟨⟨h0, h1, h2, h3, h4, h5⟩, h6, h7, h8⟩ := HB.out
  have t0 : ((X 0).toList == [86, 79, 76, 85, 77, 69]) = true := by rw [h0]; decide +kernel
  have t1 : (kd != 77) = false := by rw [h1]; rfl
  have t2 : decide (N 1 < 1) = false := decide_eq_false (by omega)
  have t3 : decide (20 < N 1) = false := decide_eq_false (by omega)
  have t4 : decide (N 0 < 0) = false := decide_eq_false (by omega)
  have t5 : decide (N 1 ≤ N 0) = false := decide_eq_false (by omega)
  have t6 : decide (N 3 < 0) = false := decide_eq_false (by omega)
  have t7 : decide ((R.size : Int) < N 3) = false := decide_eq_false (by omega)
  have hsz : (R.extract 0 (N 3).toNat).size = (N 3).toNat := by rw [ByteArray.size_extract]; omega
  have cf := fun w => CF.out (N 3).toNat w
  rw [hsz] at cf
  have Cf := Lib.hid cf
  have hpd := padB_size (N 3).toNat
  have t8 : (R.toList == (R.extract 0 (N 3).toNat ++ padB (N 3).toNat).toList) = true := by
    rw [beq_iff_eq]
    exact congrArg ByteArray.toList HB.out.2.2.2
  clear HB CF cf h0 h1 h2 h3 h4 h5 h8
  generalize padB (N 3).toNat = P at *
  go_wp2_with fail
  refine (Cf.out _).mono ?_; rintro e w3 ⟨rfl, hx3⟩
  have hx4 := hx2.trans hx3
  have HR3 := Lib.hid ((hx3.block _ (lt_of_block HR0.out)).trans HR0.out)
  have HX3 := Lib.hid (show w3.heap[w1.heap.size]? = some (.cells (rowRaw X kd N) 82 (0, 0)) from (hx3.block _ (by simp)).trans (World.alloc_heap_new w1 _))
  have kl := lt_of_block HX3.out
  have c0 : _ = some (Value.string (X 0)) := vrow_cell HX3.out (i := 0) rfl
  have c1 : _ = some (Value.string (X 1)) := vrow_cell HX3.out (i := 1) rfl
  have c2 : _ = some (Value.string (X 2)) := vrow_cell HX3.out (i := 2) rfl
  have c3 : _ = some (Value.string (X 3)) := vrow_cell HX3.out (i := 3) rfl
  have c4 : _ = some (Value.string (X 4)) := vrow_cell HX3.out (i := 4) rfl
  have c5 : _ = some (Value.int .u8 kd) := vrow_cell HX3.out (i := 5) rfl
  have c6 : _ = some (Value.int .i64 (N 0)) := vrow_cell HX3.out (i := 6) rfl
  have c7 : _ = some (Value.int .i64 (N 1)) := vrow_cell HX3.out (i := 7) rfl
  have c8 : _ = some (Value.int .i64 (N 2)) := vrow_cell HX3.out (i := 8) rfl
  have c9 : _ = some (Value.int .i64 (N 3)) := vrow_cell HX3.out (i := 9) rfl
  have c10 : _ = some (Value.int .i64 (N 4)) := vrow_cell HX3.out (i := 10) rfl
  have c11 : _ = some (Value.int .i64 (N 5)) := vrow_cell HX3.out (i := 11) rfl
  have c12 : _ = some (Value.int .i64 (N 6)) := vrow_cell HX3.out (i := 12) rfl
  go_upto_region 18 with fail
  clear t0 t1 t2 t3 t4 t5 t6 t7 t8
  refine wp_region_detF (StoreS w w3 w.heap.size (rowRaw noX 0 noN) (rowRaw X kd N) 82) false (by kernel_rfl) (by kernel_rfl) (StoreS.start (hw0.trans hx4) HR3.out (Nat.le_refl _)) ?_
  repeat (first
    | (refine detF_skip (by rfl) ?_; simp only [Act.put, List.setIfInBounds_toArray, List.set_cons_zero, List.set_cons_succ])
    | (refine detF_plain (v := ?_) rfl (by rfl) (fun bq w9 hS => ?_) ?_; rotate_left; (focus (have hcl := hS.1; go_wp2_with fail; refine ⟨?_, rfl, hS⟩; (first | (simp only [List.getElem?_toArray, List.getElem?_cons_succ, List.getElem?_cons_zero]; rfl) | rfl))); simp only [Act.put, List.setIfInBounds_toArray, List.set_cons_zero, List.set_cons_succ])
    | (refine detF_store (by rfl) (StoreS.store 82 (.tmp 2) (.tmp 68) rfl (by rfl) (by rfl) (by rfl) rfl (rowRaw_one _ _ _)) ?_; simp only [Act.put]))
  refine detF_end ?_
  intro w8 hS
  go_wp2_with fail
  exact bodyPost_ret (v := .tuple #[.agg (rowRaw X kd N), .string (R.extract 0 (N 3).toNat), .nilIface]) (results_vol (by rfl) (by rfl) (by rfl) rfl (by simpa using hS.2.2.1)) rfl ⟨rfl, hS.2.1⟩
end Go.Proofs.YtiiaoagobjgkiaaGreatDoor
