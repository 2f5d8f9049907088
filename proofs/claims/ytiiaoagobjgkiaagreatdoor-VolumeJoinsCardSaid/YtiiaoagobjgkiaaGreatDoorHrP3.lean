/-
  head.Read: its walk at dialect 3 (written by hrgen.py). No conditions but what its callees give.
-/
import Derived.Test.YtiiaoagobjgkiaaGreatDoorHrP
namespace Go.Proofs.YtiiaoagobjgkiaaGreatDoor
open Go.RowKit Go.WideShapes Go.PlainAid

set_option maxHeartbeats 40000000 in
set_option maxRecDepth 100000 in
theorem headRead_3 (s : ByteArray) (h : s.size = 512) (hb : headB s = true) (hd : dialV s = 3) (kd : Int) (hkd : headK s = kd) (NV NE : Nat → Int) (T : Nat → ByteArray)
    (CN : ∀ k, k < 7 → ∀ w, Calls Tryz.prog 118 #[.string (s.extract (nAt k) (nEnd k))] w fun e w' => e = .returned (.tuple #[.int .i64 (NV k), errOf (NE k)]) ∧ Ext w w')
    (CT : ∀ k, k < 5 → ∀ w, HasMax w → Calls Tryz.prog 121 #[.string (s.extract (tAt k) (tEnd k)), .string ⟨#[0]⟩] w fun e w' => ∃ (b : ByteArray) (c : Bool), e = .returned (.tuple #[.string (T k), .string b, .bool c]) ∧ Ext w w')
    (V : Value) (v2 : ∀ k, k < 7 → NE k ≠ 0 → V = badR 2) (v4 : (∀ k, k < 7 → NE k = 0) → V = .tuple #[.agg (rowRaw (finT T 3) kd (upN NV 7)), .int .i64 3, .nilIface]) (w : World) (hm : HasMax w) :
    Calls Tryz.prog 78 #[.string s] w fun e w' => e = .returned V ∧ Ext w w' := by
  have C := fun w => blockRight_any s w (by omega)
  rw [hb] at C
  have CB := Lib.hid C
  clear C hb
  have C := fun w => dialectOf_any s h w
  rw [hd] at C
  have CD := Lib.hid C
  clear C hd
  have q : ((s.size : Int) != 512) = false := by simp; omega
  have z0 : 156 < s.size := by omega
  have zs : Hid (s.size = 512) := Lib.hid h
  clear h
  have hbt := get_bt s
  have HK : Hid (kd = if bt s 156 = 0 then 48 else bt s 156) := Lib.hid hkd.symm
  clear hkd
  have CNs := Lib.hid CN
  have CTs := Lib.hid CT
  have V2 := Lib.hid v2
  have V4 := Lib.hid v4
  clear CN CT v2 v4
  have CM : Hid (∀ w, Calls Tryz.prog 116 #[.int .i64 3] w fun e w' => e = .returned (.int .i64 7) ∧ Ext w w') := Lib.hid (fun w => many_any 3 w)
  have CSn : Hid (∀ w, Calls Tryz.prog 117 #[] w fun e w' => e = .returned (.agg #[.int .i64 100, .int .i64 8, .int .i64 108, .int .i64 8, .int .i64 116, .int .i64 8, .int .i64 124, .int .i64 12, .int .i64 136, .int .i64 12, .int .i64 329, .int .i64 8, .int .i64 337, .int .i64 8]) ∧ Ext w w') := Lib.hid (fun w => numberSpots_any w)
  have CSt : Hid (∀ w, Calls Tryz.prog 120 #[] w fun e w' => e = .returned (.agg #[.int .i64 0, .int .i64 100, .int .i64 157, .int .i64 100, .int .i64 265, .int .i64 32, .int .i64 297, .int .i64 32, .int .i64 345, .int .i64 155]) ∧ Ext w w') := Lib.hid (fun w => textSpots_any w)
  have CPn := fun (r : Nat) (w : World) => numbers_any r w
  unfold numbersV at CPn
  replace CPn := Lib.hid CPn
  have CPt := fun (r : Nat) (w : World) => texts_any r w
  unfold textsV at CPt
  replace CPt := Lib.hid CPt
  go_enter Tryz.func78, Tryz.ntmps78
  go_wp2_with fail
  refine (CB.out _).mono ?_; rintro e w1 ⟨rfl, hx1⟩
  have hxw1 : Ext w w1 := ((Ext.refl w).alloc _).trans hx1
  have hR1 : w1.heap[w.heap.size]? = some (.cells (rowRaw noX 0 noN) 82 (0, 0)) := (hx1.block _ (by simp)).trans (World.alloc_heap_new w _)
  have HR1 := Lib.hid hR1
  clear hR1
  go_wp2_with fail
  refine (CD.out _).mono ?_; rintro e w2 ⟨rfl, hx2⟩
  have hxw : Ext w w2 := hxw1.trans hx2
  have hz1 : w.heap.size < w2.heap.size := Nat.lt_of_lt_of_le (lt_of_block HR1.out) hx2.size
  have HR2 : Hid (w2.heap[w.heap.size]? = some (.cells (rowRaw noX 0 noN) 82 (0, 0))) := Lib.hid ((hx2.block _ (lt_of_block HR1.out)).trans HR1.out)
  clear HR1 hxw1
  have hm2 := hm.ext hxw
  go_upto_if 32 with fail
  go_cut [] (fun wx => Hid (wx.heap[w2.heap.size]? = some (.cells (rowRaw noX kd noN) 82 (0, 0))) ∧ Ext w2 wx)
  case first =>
    go_wp2_with fail
    · have hz : (bt s 156 == 0) = true := by assumption
      go_meet
      exact ⟨Lib.hid ((World.alloc_heap_new _ _).trans (by rw [HK.out, if_pos (by simpa using hz)]; rfl)), (Ext.refl _).alloc _⟩
    · have hz : (bt s 156 == 0) = false := by assumption
      go_meet
      exact ⟨Lib.hid ((World.alloc_heap_new _ _).trans (by rw [HK.out, if_neg (by simpa using hz)]; rfl)), (Ext.refl _).alloc _⟩
  case rest =>
    obtain ⟨hrow3, hE3⟩ := hcut
    clear hbt z0 HK
    go_wp2_with fail
    refine (CPn.out _ _).mono ?_; rintro e w4 ⟨rfl, hx4⟩
    have hrow4 : Hid (_ = some (Obj.cells (rowRaw noX kd (upN NV 0)) 82 (0, 0))) := Lib.hid ((hx4.block _ (lt_of_block hrow3.out)).trans hrow3.out)
    have hE4 := hE3.trans hx4
    clear hrow3 hE3 hx4
    go_wp2_with fail
    go_loopw [35] (fun i wr => ∃ k : Nat, k ≤ 7 ∧ i = .int .i64 (k : Int) ∧ Hid (∀ j, j < k → NE j = 0) ∧ Hid (wr.heap[w2.heap.size]? = some (.cells (rowRaw noX kd (upN NV k)) 82 (0, 0))) ∧ Ext w2 wr) (fun i _ => 7 - (intOf i).toNat)
    case atStart => exact ⟨0, by omega, rfl, Lib.hid (fun j hj => absurd hj (by omega)), hrow4, hE4⟩
    case round =>
      obtain ⟨k, hk, rfl, hz, hrow, hE⟩ := hrel
      have hgl := lt_of_block hrow.out
      obtain ⟨ip0, ip1, ip2, ip3, ip4, ip5, ip6⟩ := idxPn
      obtain ⟨it0, it1, it2, it3, it4, it5, it6⟩ := idxNs
      by_cases hlt : k < 7
      · have CR := CNs.out k (by omega)
        have hin : nEnd k ≤ s.size := by rw [zs.out]; unfold nEnd; split <;> omega
        by_cases hne : NE k = 0
        · rw [hne, show errOf 0 = .nilIface from rfl] at CR
          replace CR := Lib.hid CR
          have hz' : Hid (∀ j, j < k + 1 → NE j = 0) := Lib.hid (fun j hj => by
            rcases Nat.lt_succ_iff_lt_or_eq.1 hj with h | rfl
            · exact hz.out j h
            · exact hne)
          have hrw := Lib.hid (rowRaw_N noX kd NV k (by omega))
          clear hne
          rcases (show k = 0 ∨ k = 1 ∨ k = 2 ∨ k = 3 ∨ k = 4 ∨ k = 5 ∨ k = 6 by omega) with rfl | rfl | rfl | rfl | rfl | rfl | rfl
          · simp only [nEnd] at hin
            go_wp2_with fail
            refine (CM.out _).mono ?_; rintro e w5 ⟨rfl, hx5⟩
            go_wp2_with fail
            refine (CSn.out _).mono ?_; rintro e w6 ⟨rfl, hx6⟩
            go_wp2_with fail
            refine (CR.out _).mono ?_; rintro e w7 ⟨rfl, hx7⟩
            have hE7 : Ext wr w7 := (hx5.trans hx6).trans (((Ext.refl _).alloc _).trans hx7)
            have hrow7 := Lib.hid ((hE7.block _ hgl).trans hrow.out)
            have cc : w7.cell? ⟨w2.heap.size, 6, none⟩ = some (.int .i64 0) := (rowRaw_cells _ _ _ hrow7.out).2.2.1 0 (by omega)
            have cf : w7.frozen? ⟨w2.heap.size, 6, none⟩ = false := (rowRaw_cells _ _ _ hrow7.out).2.2.2 6
            have cz := lt_of_block hrow7.out
            go_wp2_with fail
            go_roundw
            case rel => exact ⟨1, by omega, by go_num, hz', Lib.hid ((cells_setCell hrow7.out).trans (congrArg (fun C => some (Obj.cells C 82 (0, 0))) hrw.out)), (hE.trans hE7).setCell (p := ⟨w2.heap.size, 6, none⟩) (Nat.le_refl _) _⟩
            case measure => simp [intOf]
          · simp only [nEnd] at hin
            go_wp2_with fail
            refine (CM.out _).mono ?_; rintro e w5 ⟨rfl, hx5⟩
            go_wp2_with fail
            refine (CSn.out _).mono ?_; rintro e w6 ⟨rfl, hx6⟩
            go_wp2_with fail
            refine (CR.out _).mono ?_; rintro e w7 ⟨rfl, hx7⟩
            have hE7 : Ext wr w7 := (hx5.trans hx6).trans (((Ext.refl _).alloc _).trans hx7)
            have hrow7 := Lib.hid ((hE7.block _ hgl).trans hrow.out)
            have cc : w7.cell? ⟨w2.heap.size, 7, none⟩ = some (.int .i64 0) := (rowRaw_cells _ _ _ hrow7.out).2.2.1 1 (by omega)
            have cf : w7.frozen? ⟨w2.heap.size, 7, none⟩ = false := (rowRaw_cells _ _ _ hrow7.out).2.2.2 7
            have cz := lt_of_block hrow7.out
            go_wp2_with fail
            go_roundw
            case rel => exact ⟨2, by omega, by go_num, hz', Lib.hid ((cells_setCell hrow7.out).trans (congrArg (fun C => some (Obj.cells C 82 (0, 0))) hrw.out)), (hE.trans hE7).setCell (p := ⟨w2.heap.size, 7, none⟩) (Nat.le_refl _) _⟩
            case measure => simp [intOf]
          · simp only [nEnd] at hin
            go_wp2_with fail
            refine (CM.out _).mono ?_; rintro e w5 ⟨rfl, hx5⟩
            go_wp2_with fail
            refine (CSn.out _).mono ?_; rintro e w6 ⟨rfl, hx6⟩
            go_wp2_with fail
            refine (CR.out _).mono ?_; rintro e w7 ⟨rfl, hx7⟩
            have hE7 : Ext wr w7 := (hx5.trans hx6).trans (((Ext.refl _).alloc _).trans hx7)
            have hrow7 := Lib.hid ((hE7.block _ hgl).trans hrow.out)
            have cc : w7.cell? ⟨w2.heap.size, 8, none⟩ = some (.int .i64 0) := (rowRaw_cells _ _ _ hrow7.out).2.2.1 2 (by omega)
            have cf : w7.frozen? ⟨w2.heap.size, 8, none⟩ = false := (rowRaw_cells _ _ _ hrow7.out).2.2.2 8
            have cz := lt_of_block hrow7.out
            go_wp2_with fail
            go_roundw
            case rel => exact ⟨3, by omega, by go_num, hz', Lib.hid ((cells_setCell hrow7.out).trans (congrArg (fun C => some (Obj.cells C 82 (0, 0))) hrw.out)), (hE.trans hE7).setCell (p := ⟨w2.heap.size, 8, none⟩) (Nat.le_refl _) _⟩
            case measure => simp [intOf]
          · simp only [nEnd] at hin
            go_wp2_with fail
            refine (CM.out _).mono ?_; rintro e w5 ⟨rfl, hx5⟩
            go_wp2_with fail
            refine (CSn.out _).mono ?_; rintro e w6 ⟨rfl, hx6⟩
            go_wp2_with fail
            refine (CR.out _).mono ?_; rintro e w7 ⟨rfl, hx7⟩
            have hE7 : Ext wr w7 := (hx5.trans hx6).trans (((Ext.refl _).alloc _).trans hx7)
            have hrow7 := Lib.hid ((hE7.block _ hgl).trans hrow.out)
            have cc : w7.cell? ⟨w2.heap.size, 9, none⟩ = some (.int .i64 0) := (rowRaw_cells _ _ _ hrow7.out).2.2.1 3 (by omega)
            have cf : w7.frozen? ⟨w2.heap.size, 9, none⟩ = false := (rowRaw_cells _ _ _ hrow7.out).2.2.2 9
            have cz := lt_of_block hrow7.out
            go_wp2_with fail
            go_roundw
            case rel => exact ⟨4, by omega, by go_num, hz', Lib.hid ((cells_setCell hrow7.out).trans (congrArg (fun C => some (Obj.cells C 82 (0, 0))) hrw.out)), (hE.trans hE7).setCell (p := ⟨w2.heap.size, 9, none⟩) (Nat.le_refl _) _⟩
            case measure => simp [intOf]
          · simp only [nEnd] at hin
            go_wp2_with fail
            refine (CM.out _).mono ?_; rintro e w5 ⟨rfl, hx5⟩
            go_wp2_with fail
            refine (CSn.out _).mono ?_; rintro e w6 ⟨rfl, hx6⟩
            go_wp2_with fail
            refine (CR.out _).mono ?_; rintro e w7 ⟨rfl, hx7⟩
            have hE7 : Ext wr w7 := (hx5.trans hx6).trans (((Ext.refl _).alloc _).trans hx7)
            have hrow7 := Lib.hid ((hE7.block _ hgl).trans hrow.out)
            have cc : w7.cell? ⟨w2.heap.size, 10, none⟩ = some (.int .i64 0) := (rowRaw_cells _ _ _ hrow7.out).2.2.1 4 (by omega)
            have cf : w7.frozen? ⟨w2.heap.size, 10, none⟩ = false := (rowRaw_cells _ _ _ hrow7.out).2.2.2 10
            have cz := lt_of_block hrow7.out
            go_wp2_with fail
            go_roundw
            case rel => exact ⟨5, by omega, by go_num, hz', Lib.hid ((cells_setCell hrow7.out).trans (congrArg (fun C => some (Obj.cells C 82 (0, 0))) hrw.out)), (hE.trans hE7).setCell (p := ⟨w2.heap.size, 10, none⟩) (Nat.le_refl _) _⟩
            case measure => simp [intOf]
          · simp only [nEnd] at hin
            go_wp2_with fail
            refine (CM.out _).mono ?_; rintro e w5 ⟨rfl, hx5⟩
            go_wp2_with fail
            refine (CSn.out _).mono ?_; rintro e w6 ⟨rfl, hx6⟩
            go_wp2_with fail
            refine (CR.out _).mono ?_; rintro e w7 ⟨rfl, hx7⟩
            have hE7 : Ext wr w7 := (hx5.trans hx6).trans (((Ext.refl _).alloc _).trans hx7)
            have hrow7 := Lib.hid ((hE7.block _ hgl).trans hrow.out)
            have cc : w7.cell? ⟨w2.heap.size, 11, none⟩ = some (.int .i64 0) := (rowRaw_cells _ _ _ hrow7.out).2.2.1 5 (by omega)
            have cf : w7.frozen? ⟨w2.heap.size, 11, none⟩ = false := (rowRaw_cells _ _ _ hrow7.out).2.2.2 11
            have cz := lt_of_block hrow7.out
            go_wp2_with fail
            go_roundw
            case rel => exact ⟨6, by omega, by go_num, hz', Lib.hid ((cells_setCell hrow7.out).trans (congrArg (fun C => some (Obj.cells C 82 (0, 0))) hrw.out)), (hE.trans hE7).setCell (p := ⟨w2.heap.size, 11, none⟩) (Nat.le_refl _) _⟩
            case measure => simp [intOf]
          · simp only [nEnd] at hin
            go_wp2_with fail
            refine (CM.out _).mono ?_; rintro e w5 ⟨rfl, hx5⟩
            go_wp2_with fail
            refine (CSn.out _).mono ?_; rintro e w6 ⟨rfl, hx6⟩
            go_wp2_with fail
            refine (CR.out _).mono ?_; rintro e w7 ⟨rfl, hx7⟩
            have hE7 : Ext wr w7 := (hx5.trans hx6).trans (((Ext.refl _).alloc _).trans hx7)
            have hrow7 := Lib.hid ((hE7.block _ hgl).trans hrow.out)
            have cc : w7.cell? ⟨w2.heap.size, 12, none⟩ = some (.int .i64 0) := (rowRaw_cells _ _ _ hrow7.out).2.2.1 6 (by omega)
            have cf : w7.frozen? ⟨w2.heap.size, 12, none⟩ = false := (rowRaw_cells _ _ _ hrow7.out).2.2.2 12
            have cz := lt_of_block hrow7.out
            go_wp2_with fail
            go_roundw
            case rel => exact ⟨7, by omega, by go_num, hz', Lib.hid ((cells_setCell hrow7.out).trans (congrArg (fun C => some (Obj.cells C 82 (0, 0))) hrw.out)), (hE.trans hE7).setCell (p := ⟨w2.heap.size, 12, none⟩) (Nat.le_refl _) _⟩
            case measure => simp [intOf]
        · rw [errOf_ne hne] at CR
          replace CR := Lib.hid CR
          have hV := Lib.hid (V2.out k hlt hne)
          clear hne
          rcases (show k = 0 ∨ k = 1 ∨ k = 2 ∨ k = 3 ∨ k = 4 ∨ k = 5 ∨ k = 6 by omega) with rfl | rfl | rfl | rfl | rfl | rfl | rfl
          all_goals
            simp only [nEnd] at hin
            go_wp2_with fail
            refine (CM.out _).mono ?_; rintro e w5 ⟨rfl, hx5⟩
            go_wp2_with fail
            refine (CSn.out _).mono ?_; rintro e w6 ⟨rfl, hx6⟩
            go_wp2_with fail
            refine (CR.out _).mono ?_; rintro e w7 ⟨rfl, hx7⟩
            have hE7 : Ext w2 w7 := hE.trans ((hx5.trans hx6).trans (((Ext.refl _).alloc _).trans hx7))
            have HR7 := Lib.hid ((hE7.block _ hz1).trans HR2.out)
            go_wp2_with (refine wpList_store_row rfl 82 (.tmp 2) (.tmp 61) rfl w.heap.size (rowRaw noX 0 noN) rfl rfl 82 _ HR7.out rawInfo rfl (rowRaw_one _ _ _) ?_)
            exact bodyPost_ret (v := V) (by rw [hV.out]; exact results_raw (by rfl) (by rfl) (by rfl) rfl (setRow_heap _ _ _ _ _ _ HR7.out)) rfl ⟨rfl, below_setRow (hxw.trans hE7) (Nat.le_refl _) _⟩
      · obtain rfl : k = 7 := by omega
        go_wp2_with fail
        refine (CPt.out _ _).mono ?_; rintro e w8 ⟨rfl, hx8⟩
        have hE8 : Ext w2 w8 := hE.trans hx8
        have hrow8 : Hid (w8.heap[w2.heap.size]? = some (.cells (rowRaw (upT T 0) kd (upN NV 7)) 82 (0, 0))) := Lib.hid ((hx8.block _ hgl).trans hrow.out)
        have hv := Lib.hid (V4.out hz.out)
        clear hrow hE hgl hlt hk
        clear ip0 ip1 ip2 ip3 ip4 ip5 ip6 it0 it1 it2 it3 it4 it5 it6
        go_wp2_with fail
        go_loopw [68] (fun i wr => ∃ k : Nat, k ≤ 5 ∧ i = .int .i64 (k : Int) ∧ Hid (wr.heap[w2.heap.size]? = some (.cells (rowRaw (upT T k) kd (upN NV 7)) 82 (0, 0))) ∧ Ext w2 wr) (fun i _ => 5 - (intOf i).toNat)
        case atStart => exact ⟨0, by omega, rfl, hrow8, hE8⟩
        case round =>
          obtain ⟨k, hk, rfl, hrow, hE⟩ := hrel
          have hgl := lt_of_block hrow.out
          obtain ⟨ip0, ip1, ip2, ip3, ip4⟩ := idxPs
          obtain ⟨it0, it1, it2, it3, it4⟩ := idxTs
          by_cases hlt : k < 5
          · have CR := Lib.hid (CTs.out k (by omega))
            have hin : tEnd k ≤ s.size := by rw [zs.out]; unfold tEnd; split <;> omega
            have hrw := Lib.hid (rowRaw_T T kd (upN NV 7) k (by omega))
            rcases (show k = 0 ∨ k = 1 ∨ k = 2 ∨ k = 3 ∨ k = 4 by omega) with rfl | rfl | rfl | rfl | rfl
            · simp only [tEnd] at hin
              go_wp2_with fail
              refine (CSt.out _).mono ?_; rintro e w6 ⟨rfl, hx6⟩
              go_wp2_with fail
              refine (CR.out _ (hm2.ext ((hE.trans hx6).trans ((Ext.refl _).alloc _)))).mono ?_; rintro e w7 ⟨bq, cq, rfl, hx7⟩
              have hE7 : Ext wr w7 := hx6.trans (((Ext.refl _).alloc _).trans hx7)
              have hrow7 := Lib.hid ((hE7.block _ hgl).trans hrow.out)
              have cc : w7.cell? ⟨w2.heap.size, 0, none⟩ = some (.string ⟨#[]⟩) := (rowRaw_cells _ _ _ hrow7.out).1 0 (by omega)
              have cf : w7.frozen? ⟨w2.heap.size, 0, none⟩ = false := (rowRaw_cells _ _ _ hrow7.out).2.2.2 0
              have cz := lt_of_block hrow7.out
              go_wp2_with fail
              go_roundw
              case rel => exact ⟨1, by omega, by go_num, Lib.hid ((cells_setCell hrow7.out).trans (congrArg (fun C => some (Obj.cells C 82 (0, 0))) hrw.out)), (hE.trans hE7).setCell (p := ⟨w2.heap.size, 0, none⟩) (Nat.le_refl _) _⟩
              case measure => simp [intOf]
            · simp only [tEnd] at hin
              go_wp2_with fail
              refine (CSt.out _).mono ?_; rintro e w6 ⟨rfl, hx6⟩
              go_wp2_with fail
              refine (CR.out _ (hm2.ext ((hE.trans hx6).trans ((Ext.refl _).alloc _)))).mono ?_; rintro e w7 ⟨bq, cq, rfl, hx7⟩
              have hE7 : Ext wr w7 := hx6.trans (((Ext.refl _).alloc _).trans hx7)
              have hrow7 := Lib.hid ((hE7.block _ hgl).trans hrow.out)
              have cc : w7.cell? ⟨w2.heap.size, 1, none⟩ = some (.string ⟨#[]⟩) := (rowRaw_cells _ _ _ hrow7.out).1 1 (by omega)
              have cf : w7.frozen? ⟨w2.heap.size, 1, none⟩ = false := (rowRaw_cells _ _ _ hrow7.out).2.2.2 1
              have cz := lt_of_block hrow7.out
              go_wp2_with fail
              go_roundw
              case rel => exact ⟨2, by omega, by go_num, Lib.hid ((cells_setCell hrow7.out).trans (congrArg (fun C => some (Obj.cells C 82 (0, 0))) hrw.out)), (hE.trans hE7).setCell (p := ⟨w2.heap.size, 1, none⟩) (Nat.le_refl _) _⟩
              case measure => simp [intOf]
            · simp only [tEnd] at hin
              go_wp2_with fail
              refine (CSt.out _).mono ?_; rintro e w6 ⟨rfl, hx6⟩
              go_wp2_with fail
              refine (CR.out _ (hm2.ext ((hE.trans hx6).trans ((Ext.refl _).alloc _)))).mono ?_; rintro e w7 ⟨bq, cq, rfl, hx7⟩
              have hE7 : Ext wr w7 := hx6.trans (((Ext.refl _).alloc _).trans hx7)
              have hrow7 := Lib.hid ((hE7.block _ hgl).trans hrow.out)
              have cc : w7.cell? ⟨w2.heap.size, 2, none⟩ = some (.string ⟨#[]⟩) := (rowRaw_cells _ _ _ hrow7.out).1 2 (by omega)
              have cf : w7.frozen? ⟨w2.heap.size, 2, none⟩ = false := (rowRaw_cells _ _ _ hrow7.out).2.2.2 2
              have cz := lt_of_block hrow7.out
              go_wp2_with fail
              go_roundw
              case rel => exact ⟨3, by omega, by go_num, Lib.hid ((cells_setCell hrow7.out).trans (congrArg (fun C => some (Obj.cells C 82 (0, 0))) hrw.out)), (hE.trans hE7).setCell (p := ⟨w2.heap.size, 2, none⟩) (Nat.le_refl _) _⟩
              case measure => simp [intOf]
            · simp only [tEnd] at hin
              go_wp2_with fail
              refine (CSt.out _).mono ?_; rintro e w6 ⟨rfl, hx6⟩
              go_wp2_with fail
              refine (CR.out _ (hm2.ext ((hE.trans hx6).trans ((Ext.refl _).alloc _)))).mono ?_; rintro e w7 ⟨bq, cq, rfl, hx7⟩
              have hE7 : Ext wr w7 := hx6.trans (((Ext.refl _).alloc _).trans hx7)
              have hrow7 := Lib.hid ((hE7.block _ hgl).trans hrow.out)
              have cc : w7.cell? ⟨w2.heap.size, 3, none⟩ = some (.string ⟨#[]⟩) := (rowRaw_cells _ _ _ hrow7.out).1 3 (by omega)
              have cf : w7.frozen? ⟨w2.heap.size, 3, none⟩ = false := (rowRaw_cells _ _ _ hrow7.out).2.2.2 3
              have cz := lt_of_block hrow7.out
              go_wp2_with fail
              go_roundw
              case rel => exact ⟨4, by omega, by go_num, Lib.hid ((cells_setCell hrow7.out).trans (congrArg (fun C => some (Obj.cells C 82 (0, 0))) hrw.out)), (hE.trans hE7).setCell (p := ⟨w2.heap.size, 3, none⟩) (Nat.le_refl _) _⟩
              case measure => simp [intOf]
            · simp only [tEnd] at hin
              go_wp2_with fail
              refine (CSt.out _).mono ?_; rintro e w6 ⟨rfl, hx6⟩
              go_wp2_with fail
              refine (CR.out _ (hm2.ext ((hE.trans hx6).trans ((Ext.refl _).alloc _)))).mono ?_; rintro e w7 ⟨bq, cq, rfl, hx7⟩
              have hE7 : Ext wr w7 := hx6.trans (((Ext.refl _).alloc _).trans hx7)
              have hrow7 := Lib.hid ((hE7.block _ hgl).trans hrow.out)
              have cc : w7.cell? ⟨w2.heap.size, 4, none⟩ = some (.string ⟨#[]⟩) := (rowRaw_cells _ _ _ hrow7.out).1 4 (by omega)
              have cf : w7.frozen? ⟨w2.heap.size, 4, none⟩ = false := (rowRaw_cells _ _ _ hrow7.out).2.2.2 4
              have cz := lt_of_block hrow7.out
              go_wp2_with fail
              go_roundw
              case rel => exact ⟨5, by omega, by go_num, Lib.hid ((cells_setCell hrow7.out).trans (congrArg (fun C => some (Obj.cells C 82 (0, 0))) hrw.out)), (hE.trans hE7).setCell (p := ⟨w2.heap.size, 4, none⟩) (Nat.le_refl _) _⟩
              case measure => simp [intOf]
          · obtain rfl : k = 5 := by omega
            obtain ⟨cX, c5, cN, cF⟩ := rowRaw_cells _ _ _ hrow.out
            have c2 := cX 2 (by omega)
            have c3 := cX 3 (by omega)
            have c4 := cX 4 (by omega)
            have f2 := cF 2
            have f3 := cF 3
            have f4 := cF 4
            have hrowF : Hid ((wr.setCell ⟨w2.heap.size, 4, none⟩ (.string ⟨#[]⟩)).heap[w2.heap.size]? = some (.cells (rowRaw (finT T 3) kd (upN NV 7)) 82 (0, 0))) := Lib.hid ((cells_setCell hrow.out).trans (congrArg (fun C => some (Obj.cells C 82 (0, 0))) (by simp [rowRaw, finT, upT])))
            have hEF : Ext w2 (wr.setCell ⟨w2.heap.size, 4, none⟩ (.string ⟨#[]⟩)) := (hE.setCell (p := ⟨w2.heap.size, 4, none⟩) (Nat.le_refl _) _)
            have HRF := Lib.hid ((hEF.block _ hz1).trans HR2.out)
            clear cX cN c5 cF ip0 ip1 ip2 ip3 ip4 it0 it1 it2 it3 it4
            go_wp2_with (first | (refine wpList_load_row rfl 82 (.tmp 6) rfl w2.heap.size rfl 82 (rowRaw (finT T 3) kd (upN NV 7)) (0, 0) _ hrowF.out Tryz.underlying82 rfl rawInfo ?_) | (refine wpList_store_row rfl 82 (.tmp 2) (.tmp 99) rfl w.heap.size (rowRaw (finT T 3) kd (upN NV 7)) rfl rfl 82 _ HRF.out rawInfo rfl (rowRaw_one _ _ _) ?_))
            exact bodyPost_ret (v := V) (by rw [hv.out]; exact results_raw (by rfl) (by rfl) (by rfl) rfl (setRow_heap _ _ _ _ _ _ HRF.out)) rfl ⟨rfl, below_setRow (hxw.trans hEF) (Nat.le_refl _) _⟩
end Go.Proofs.YtiiaoagobjgkiaaGreatDoor
