/-
  head.Write: its walk, over what number.Write gives for each number. No conditions but the argument's bounds.
-/
import Derived.Test.YtnbcbipigiopbaaGreatDoorPkC
import Derived.Test.YtnbcbipigiopbaaGreatDoorPkD
namespace Go.Proofs.YtnbcbipigiopbaaGreatDoor
open Go.RowKit Go.WideShapes Go.PlainAid

/-- The length as a number of the walk's. -/
def tLongI : Nat → Int
  | 0 => 100
  | 1 => 100
  | 2 => 32
  | 3 => 32
  | _ => 155
def nLongI : Nat → Int
  | 3 => 12
  | 4 => 12
  | _ => 8
theorem fit_eq (s : ByteArray) (k : Nat) : fitS s (tLong k) = !(decide (tLongI k < (s.size : Int)) || zeroB s) := by
  have e : (tLong k : Int) = tLongI k := by
    match k with
    | 0 => rfl
    | 1 => rfl
    | 2 => rfl
    | 3 => rfl
    | _ + 4 => rfl
  rw [← e]
  rfl
theorem idxByte_w (s : ByteArray) (w : World) : Calls Tryz.prog 38 #[.string s, .int .u8 0] w fun e w' => e = .returned (.int .i64 (Lib.indexByte s.data.toList 0)) ∧ Ext w w' :=
  (Tryz.strings_IndexByte s 0 w).mono fun _ _ ⟨h, k⟩ => ⟨h, by rw [k]; exact Ext.refl _⟩
theorem box2_at {w w5 : World} {a b : Value} {t : TypeId} (h : Ext (w.alloc (.cells #[a, b] t)) w5) : w5.cell? ⟨w.heap.size, 0, none⟩ = some a ∧ w5.cell? ⟨w.heap.size, 1, none⟩ = some b := ⟨h.cell (by simp), h.cell (by simp)⟩
/-- The header behind k texts. -/
def rowTk (X : Nat → ByteArray) : Nat → List UInt8
  | 0 => List.replicate 512 0
  | k + 1 => splice (rowTk X k) (tAt k) (X k).data.toList
/-- The header behind all texts and k numbers. -/
def rowNk (X TS : Nat → ByteArray) : Nat → List UInt8
  | 0 => rowTk X 5
  | k + 1 => splice (rowNk X TS k) (nAt k) (TS k).data.toList
/-- A row finished: its kind and its form. -/
def rowZL (L : List UInt8) (f kd : Int) : ByteArray :=
  if f = 1 then ⟨(splice L 156 [UInt8.ofNat kd.toNat]).toArray⟩ else ⟨(splice (splice L 156 [UInt8.ofNat kd.toNat]) 257 (magicV f).data.toList).toArray⟩
/-- The header whole. -/
def rowZ (X TS : Nat → ByteArray) (f kd : Int) (M : Nat) : ByteArray := rowZL (rowNk X TS M) f kd

theorem tfit (k : Nat) : tAt k + tLong k ≤ 512 := by
  unfold tAt tLong
  split <;> simp
theorem nfit (k : Nat) : nAt k + nLong k ≤ 512 := by
  unfold nAt nLong
  split <;> split <;> omega
theorem fit_size {s : ByteArray} {n : Nat} (h : fitS s n = true) : s.size ≤ n := by
  unfold fitS at h
  simp at h
  omega
theorem rowTk_len (X : Nat → ByteArray) : ∀ k, (∀ j, j < k → fitS (X j) (tLong j) = true) → (rowTk X k).length = 512
  | 0, _ => List.length_replicate
  | k + 1, h => by
    have h1 := rowTk_len X k fun j hj => h j (by omega)
    have h2 := fit_size (h k (by omega))
    have h3 := tfit k
    rw [rowTk, splice_len (by rw [h1]; show tAt k + (X k).size ≤ _; omega), h1]
theorem rowNk_len (X TS : Nat → ByteArray) (h : ∀ j, j < 5 → fitS (X j) (tLong j) = true) : ∀ k, (∀ j, j < k → (TS j).size = nLong j) → (rowNk X TS k).length = 512
  | 0, _ => rowTk_len X 5 h
  | k + 1, h2 => by
    have h1 := rowNk_len X TS h k fun j hj => h2 j (by omega)
    have h4 := h2 k (by omega)
    have h3 := nfit k
    rw [rowNk, splice_len (by rw [h1]; show nAt k + (TS k).size ≤ _; omega), h1]

theorem byteCells_set (L : List UInt8) (i : Nat) (x : UInt8) (h : i < L.length) : (Lib.byteCells L).toArray.setIfInBounds i (.int .u8 (x.toNat : Int)) = (Lib.byteCells (splice L i [x])).toArray := by
  apply Array.toList_inj.1
  unfold splice Lib.byteCells
  simp [List.set_eq_take_append_cons_drop, h, List.map_take, List.map_drop]
theorem bytesAt_any {w : World} {g : Nat} {L : List UInt8} {t : TypeId} (h : w.heap[g]? = some (.cells (Lib.byteCells L).toArray t (0, 0))) : BytesAt w g L :=
  ⟨fun j hj => by simp [World.cell?, h, Lib.byteCells, hj], fun j _ => by simp [World.frozen?, h]⟩
theorem rowLt {w : World} {g : Nat} {o : Obj} (h : w.heap[g]? = some o) : g < w.heap.size := lt_of_block h

set_option maxRecDepth 100000 in
theorem zero512 : Tryz.zeroCells168 = (Lib.byteCells (List.replicate 512 0)).toArray := by kernel_rfl

/-- Between two rounds of head.Write's loops: the block holds L. -/
def WRel (g : Nat) (w0 : World) (L : List UInt8) (wr : World) : Prop := wr.heap[g]? = some (.cells (Lib.byteCells L).toArray 168 (0, 0)) ∧ Ext w0 wr

set_option maxHeartbeats 60000000 in
set_option maxRecDepth 100000 in
theorem headWr (X TS : Nat → ByteArray) (N KS : Nat → Int) (kd f : Int) (M : Nat) (hM : M = if f = 1 then 5 else 7) (hf1 : 1 ≤ f) (hf4 : f ≤ 4) (hk0 : 0 < kd) (hk1 : kd < 256) (hX : ∀ k, (X k).size ≤ 100000)
    (hfit : fitsV f (X 2) (X 3) (X 4) (N 5) (N 6) = true) (hz : ∀ k, (TS k).size ≤ 20) (hz' : ∀ k, k < M → KS k = 0 → (TS k).size = nLong k)
    (C : ∀ k, k < M → ∀ w, Calls Tryz.prog 120 #[.int .i64 (N k), .int .i64 (nLongI k), .bool (f == 3)] w fun e w' => e = .returned (.tuple #[.string (TS k), errOf (KS k)]) ∧ Ext w w')
    (V : Value) (hv1 : ∀ k, k < 5 → fitS (X k) (tLong k) = false → V = .tuple #[.string ⟨#[]⟩, errOf 2]) (hv2 : ∀ k, k < M → KS k ≠ 0 → V = .tuple #[.string ⟨#[]⟩, errOf 2])
    (hv3 : (∀ k, k < 5 → fitS (X k) (tLong k) = true) → (∀ k, k < M → KS k = 0) → V = .tuple #[.string (sealS (rowZ X TS f kd M)), errOf (sumE (rowZ X TS f kd M))]) (w : World) :
    Calls Tryz.prog 60 #[.int .i64 f, .agg #[.string (X 0), .string (X 1), .string (X 2), .string (X 3), .string (X 4), .int .u8 kd, .int .i64 (N 0), .int .i64 (N 1), .int .i64 (N 2), .int .i64 (N 3), .int .i64 (N 4), .int .i64 (N 5), .int .i64 (N 6)]] w fun e w' => e = .returned V ∧ Ext w w' := by
  obtain ⟨RT, hRT⟩ : ∃ RT : Nat → List UInt8, RT = rowTk X := ⟨_, rfl⟩
  obtain ⟨RN, hRN⟩ : ∃ RN : Nat → List UInt8, RN = rowNk X TS := ⟨_, rfl⟩
  have T0 : Hid (RT 0 = List.replicate 512 0) := Lib.hid (by rw [hRT]; rfl)
  have T1 : Hid (∀ k, RT (k + 1) = splice (RT k) (tAt k) (X k).data.toList) := Lib.hid (fun k => by rw [hRT]; rfl)
  have TL : Hid (∀ k, (∀ j, j < k → fitS (X j) (tLong j) = true) → (RT k).length = 512) := Lib.hid (fun k h => by rw [hRT]; exact rowTk_len X k h)
  have N0 : Hid (RN 0 = RT 5) := Lib.hid (by rw [hRN, hRT]; rfl)
  have N1 : Hid (∀ k, RN (k + 1) = splice (RN k) (nAt k) (TS k).data.toList) := Lib.hid (fun k => by rw [hRN]; rfl)
  have NL : Hid (∀ k, (∀ j, j < 5 → fitS (X j) (tLong j) = true) → (∀ j, j < k → (TS j).size = nLong j) → (RN k).length = 512) := Lib.hid (fun k h h2 => by rw [hRN]; exact rowNk_len X TS h k h2)
  obtain ⟨Z, hZM⟩ : ∃ Z, Z = rowZ X TS f kd M := ⟨_, rfl⟩
  rw [← hZM] at hv3
  have ZN : Hid (Z = rowZL (RN M) f kd) := Lib.hid (by rw [hZM, hRN]; rfl)
  clear hRT hRN hZM
  have CF := fun w1 => fits_any (X 0) (X 1) (X 2) (X 3) (X 4) kd (N 0) (N 1) (N 2) (N 3) (N 4) (N 5) (N 6) f w1
  rw [hfit] at CF
  have HF := Lib.hid CF
  clear CF
  have CF := HF
  clear HF
  have CM := many_any f
  rw [show (if f = 1 then (5 : Int) else 7) = (M : Int) by rw [hM]; split <;> rfl] at CM
  have HM' := Lib.hid CM
  clear CM
  have CM := HM'
  clear HM'
  have CT := texts_any w.heap.size
  unfold textsV at CT
  have HT := Lib.hid CT
  clear CT
  have CT := HT
  clear HT
  have CS := textSpots_any
  unfold textSpotsV at CS
  have HS := Lib.hid CS
  clear CS
  have CS := HS
  clear HS
  have CNn := numbers_any w.heap.size
  unfold numbersV at CNn
  have HNn := Lib.hid CNn
  clear CNn
  have CNn := HNn
  clear HNn
  have CSn := numberSpots_any
  unfold numberSpotsV at CSn
  have HSn := Lib.hid CSn
  clear CSn
  have CSn := HSn
  clear HSn
  have CW := Lib.hid C
  have V1 := Lib.hid hv1
  have V2 := Lib.hid hv2
  have V3 := Lib.hid hv3
  have HX := Lib.hid hX
  have HZ := Lib.hid hz
  have HZ' := Lib.hid hz'
  have Hm : M = 5 ∨ M = 7 := by rw [hM]; split <;> simp
  have HM := Lib.hid hM
  clear C hv1 hv2 hv3 hX hz hz' hfit hM
  have e2 : Hid (errOf 2 = .iface 33 (.int .i64 2)) := Lib.hid rfl
  have c1 : ∀ W, Ext (w.alloc (.cells #[.string (X 0), .string (X 1), .string (X 2), .string (X 3), .string (X 4), .int .u8 kd, .int .i64 (N 0), .int .i64 (N 1), .int .i64 (N 2), .int .i64 (N 3), .int .i64 (N 4), .int .i64 (N 5), .int .i64 (N 6)] 76)) W →
      (∀ k, k < 5 → W.cell? ⟨w.heap.size, k, none⟩ = some (.string (X k))) ∧ W.cell? ⟨w.heap.size, 5, none⟩ = some (.int .u8 kd) ∧ (∀ k, k < 7 → W.cell? ⟨w.heap.size, 6 + k, none⟩ = some (.int .i64 (N k))) := fun W hW => by
    refine ⟨fun k hk => hW.cell ?_, hW.cell (by simp), fun k hk => hW.cell ?_⟩
    · rcases (show k = 0 ∨ k = 1 ∨ k = 2 ∨ k = 3 ∨ k = 4 by omega) with rfl | rfl | rfl | rfl | rfl <;> simp
    · rcases (show k = 0 ∨ k = 1 ∨ k = 2 ∨ k = 3 ∨ k = 4 ∨ k = 5 ∨ k = 6 by omega) with rfl | rfl | rfl | rfl | rfl | rfl | rfl <;> simp
  have CC := Lib.hid c1
  clear c1
  go_enter Tryz.func60, Tryz.ntmps60
  go_wp2_with fail
  refine (CF.out _).mono ?_; rintro e w1 ⟨rfl, hx1⟩
  have hx0 := hx1
  go_wp2_with fail
  refine (CT.out _).mono ?_; rintro e w2 ⟨rfl, hx2⟩
  have hxw : Ext w w1 := ((Ext.refl w).alloc _).trans hx0
  have hr2 : WRel w1.heap.size w1 (RT 0) w2 := ⟨(hx2.block _ (by simp)).trans (by rw [T0.out, ← zero512]; exact heap_alloc_new _ _), ((Ext.refl _).alloc _).trans hx2⟩
  go_wp2_with fail
  go_loopw [34] (fun i wr => ∃ k : Nat, k ≤ 5 ∧ i = .int .i64 (k : Int) ∧ Hid (∀ j, j < k → fitS (X j) (tLong j) = true) ∧ Hid (WRel w1.heap.size w1 (RT k) wr)) (fun i _ => 5 - (intOf i).toNat)
  case atStart => exact ⟨0, by omega, rfl, Lib.hid (fun j hj => absurd hj (by omega)), Lib.hid hr2⟩
  case round =>
    obtain ⟨k, hk, rfl, hfit, hrel⟩ := hrel
    by_cases hlt : k < 5
    · have hE := hrel.out.2
      have hrow := hrel.out.1
      have hcc := (CC.out _ (hx0.trans hE)).1 k hlt
      have hgl := rowLt hrow
      have hlen := Lib.hid (TL.out k hfit.out)
      have hxs := HX.out k
      have hsz := fun x : ByteArray => Int.natCast_nonneg x.size
      have hRow := Lib.hid hrow
      clear hrow
      obtain ⟨ip0, ip1, ip2, ip3, ip4⟩ := idxPs
      obtain ⟨it0, it1, it2, it3, it4⟩ := idxTs
      have hq := fit_eq (X k) k
      have CI := fun w => idxByte_w (X k) w
      by_cases hlg : tLongI k < ((X k).size : Int)
      · have hV := Lib.hid (V1.out k hlt (by rw [hq, decide_eq_true hlg]; rfl))
        have hdc := decide_eq_true hlg
        clear hq hlg
        rcases (show k = 0 ∨ k = 1 ∨ k = 2 ∨ k = 3 ∨ k = 4 by omega) with rfl | rfl | rfl | rfl | rfl
        all_goals
          simp only [tLongI] at hdc
          go_wp2_with fail
          refine (CS.out _).mono ?_; rintro e w3 ⟨rfl, hx3⟩
          have hcc3 := hx3.cell hcc
          have hg3 : w.heap.size < w3.heap.size := World.block_lt_of_cell? w3 _ hcc3
          have hg3' : w.heap.size ≠ w3.heap.size := by omega
          go_wp2_with fail
          refine wp_region_det (Stood _) (by kernel_rfl) (by kernel_rfl) (Stood.start _) ?_
          repeat (first
            | (refine det_skip (by rfl) ?_; simp only [Act.put, List.setIfInBounds_toArray, List.set_cons_zero, List.set_cons_succ])
            | (refine det_op (v := ?_) rfl (by rfl) (fun w' hS => ?_) ?_; rotate_left; (focus (obtain ⟨hcl, hxt⟩ := hS; go_wp2_with (first | ((with_reducible refine (CI _).mono ?_); rintro e w1 ⟨rfl, hx1⟩)); (first | refine ⟨?_, rfl, hcl, hxt⟩ | refine ⟨?_, rfl, Stood.of (hxt.trans (by assumption))⟩); (first | (simp only [List.getElem?_toArray, List.getElem?_cons_succ, List.getElem?_cons_zero]; rfl) | rfl))); simp only [Act.put, List.setIfInBounds_toArray, List.set_cons_zero, List.set_cons_succ]))
          refine det_end ?_
          intro w5 hS
          have hx5 := hS.2
          clear hS
          go_wp2_with fail
          go_ret2
          exact ⟨ret_val (by rw [hV.out]; rfl), (hxw.trans hE).trans (hx3.trans (((Ext.refl _).alloc _).trans hx5))⟩
      · have hdc : decide (tLongI k < ((X k).size : Int)) = false := decide_eq_false hlg
        rw [hdc, Bool.false_or] at hq
        clear hlg
        cases hz : zeroB (X k) with
        | true =>
          have hV := Lib.hid (V1.out k hlt (by rw [hq, hz]; rfl))
          have hzd : decide (0 ≤ Lib.indexByte (X k).data.toList 0) = true := hz
          clear hq
          rcases (show k = 0 ∨ k = 1 ∨ k = 2 ∨ k = 3 ∨ k = 4 by omega) with rfl | rfl | rfl | rfl | rfl
          all_goals
            simp only [tLongI] at hdc
            go_wp2_with fail
            refine (CS.out _).mono ?_; rintro e w3 ⟨rfl, hx3⟩
            have hcc3 := hx3.cell hcc
            have hg3 : w.heap.size < w3.heap.size := World.block_lt_of_cell? w3 _ hcc3
            have hg3' : w.heap.size ≠ w3.heap.size := by omega
            go_wp2_with fail
            refine wp_region_det (Stood _) (by kernel_rfl) (by kernel_rfl) (Stood.start _) ?_
            repeat (first
              | (refine det_skip (by rfl) ?_; simp only [Act.put, List.setIfInBounds_toArray, List.set_cons_zero, List.set_cons_succ])
              | (refine det_op (v := ?_) rfl (by rfl) (fun w' hS => ?_) ?_; rotate_left; (focus (obtain ⟨hcl, hxt⟩ := hS; go_wp2_with (first | ((with_reducible refine (CI _).mono ?_); rintro e w1 ⟨rfl, hx1⟩)); (first | refine ⟨?_, rfl, hcl, hxt⟩ | refine ⟨?_, rfl, Stood.of (hxt.trans (by assumption))⟩); (first | (simp only [List.getElem?_toArray, List.getElem?_cons_succ, List.getElem?_cons_zero]; rfl) | rfl))); simp only [Act.put, List.setIfInBounds_toArray, List.set_cons_zero, List.set_cons_succ]))
            refine det_end ?_
            intro w5 hS
            have hx5 := hS.2
            clear hS
            go_wp2_with fail
            go_ret2
            exact ⟨ret_val (by rw [hV.out]; rfl), (hxw.trans hE).trans (hx3.trans (((Ext.refl _).alloc _).trans hx5))⟩
        | false =>
          have hzd : decide (0 ≤ Lib.indexByte (X k).data.toList 0) = false := hz
          have hft : fitS (X k) (tLong k) = true := by rw [hq, hz]; rfl
          have hsk := fit_size hft
          have hfit' : Hid (∀ j, j < k + 1 → fitS (X j) (tLong j) = true) := Lib.hid (fun j hj => by
            rcases Nat.lt_succ_iff_lt_or_eq.1 hj with h | rfl
            · exact hfit.out j h
            · exact hft)
          have hsp : Hid (splice (Lib.byteCells (RT k)) (tAt k) (Lib.byteCells (X k).data.toList) = Lib.byteCells (RT (k + 1))) := Lib.hid (by rw [byteCells_splice, T1.out])
          have hin : tAt k + (X k).size ≤ 512 := by have := tfit k; omega
          have hlb : Hid ((Lib.byteCells (RT k)).length = 512) := Lib.hid (by rw [byteCells_len]; exact hlen.out)
          clear hq hft
          rcases (show k = 0 ∨ k = 1 ∨ k = 2 ∨ k = 3 ∨ k = 4 by omega) with rfl | rfl | rfl | rfl | rfl
          all_goals
            simp only [tLongI] at hdc
            simp only [tAt] at hin
            go_wp2_with fail
            refine (CS.out _).mono ?_; rintro e w3 ⟨rfl, hx3⟩
            have hcc3 := hx3.cell hcc
            have hg3 : w.heap.size < w3.heap.size := World.block_lt_of_cell? w3 _ hcc3
            have hg3' : w.heap.size ≠ w3.heap.size := by omega
            go_wp2_with fail
            refine wp_region_det (Stood _) (by kernel_rfl) (by kernel_rfl) (Stood.start _) ?_
            repeat (first
              | (refine det_skip (by rfl) ?_; simp only [Act.put, List.setIfInBounds_toArray, List.set_cons_zero, List.set_cons_succ])
              | (refine det_op (v := ?_) rfl (by rfl) (fun w' hS => ?_) ?_; rotate_left; (focus (obtain ⟨hcl, hxt⟩ := hS; go_wp2_with (first | ((with_reducible refine (CI _).mono ?_); rintro e w1 ⟨rfl, hx1⟩)); (first | refine ⟨?_, rfl, hcl, hxt⟩ | refine ⟨?_, rfl, Stood.of (hxt.trans (by assumption))⟩); (first | (simp only [List.getElem?_toArray, List.getElem?_cons_succ, List.getElem?_cons_zero]; rfl) | rfl))); simp only [Act.put, List.setIfInBounds_toArray, List.set_cons_zero, List.set_cons_succ]))
            refine det_end ?_
            intro w5 hS
            have hx5 := hS.2
            clear hS
            have hx35 : Ext wr w5 := hx3.trans (((Ext.refl _).alloc _).trans hx5)
            have row5 := (hx35.block _ hgl).trans hRow.out
            have Row5 := Lib.hid row5
            clear row5
            have cX := hx35.cell hcc
            obtain ⟨c9, c9'⟩ := box2_at hx5
            go_wp2_with fail
            refine wp_region_tail 6 (by kernel_rfl) (by kernel_rfl) ?_
            simp only [List.take_succ_cons, List.take_zero, List.drop_succ_cons, List.drop_zero]
            repeat still_step
            refine wpStill_nil ?_
            refine wpList_copy_str rfl (.tmp 58) (.tmp 61) 98 9 rfl 5 Tryz.underlying98 infoU8p w1.heap.size _ _ _ _ _ 168 rfl rfl Row5.out ?_ ?_ w1 w1.heap.size (Ext.drew (hE.trans hx35)) (Nat.le_refl _) ?_
            · omega
            · rw [hlb.out]; omega
            intro w6 hrow6 hB6 hsz6 hcl6
            go_wp2_with fail
            go_roundw
            case rel =>
              first
                | (refine ⟨1, by omega, by go_num, hfit', Lib.hid ⟨hrow6.out.trans (congrArg (fun C => some (Obj.cells (List.toArray C) 168 (0, 0))) hsp.out), hB6⟩⟩)
                | (refine ⟨2, by omega, by go_num, hfit', Lib.hid ⟨hrow6.out.trans (congrArg (fun C => some (Obj.cells (List.toArray C) 168 (0, 0))) hsp.out), hB6⟩⟩)
                | (refine ⟨3, by omega, by go_num, hfit', Lib.hid ⟨hrow6.out.trans (congrArg (fun C => some (Obj.cells (List.toArray C) 168 (0, 0))) hsp.out), hB6⟩⟩)
                | (refine ⟨4, by omega, by go_num, hfit', Lib.hid ⟨hrow6.out.trans (congrArg (fun C => some (Obj.cells (List.toArray C) 168 (0, 0))) hsp.out), hB6⟩⟩)
                | (refine ⟨5, by omega, by go_num, hfit', Lib.hid ⟨hrow6.out.trans (congrArg (fun C => some (Obj.cells (List.toArray C) 168 (0, 0))) hsp.out), hB6⟩⟩)
            case measure => simp [intOf]
    · obtain rfl : k = 5 := by omega
      have hE := hrel.out.2
      have hrow := hrel.out.1
      have hgl := rowLt hrow
      have hrow0 : wr.heap[w1.heap.size]? = some (.cells (Lib.byteCells (RN 0)).toArray 168 (0, 0)) := by rw [N0.out]; exact hrow
      have Hfit := Lib.hid hfit.out
      clear hfit hrel hrow hlt
      obtain ⟨wo, hwo⟩ : ∃ wo : World, wo = wr := ⟨_, rfl⟩
      have hgw : w.heap.size < w1.heap.size := by have := hx0.size; simp at this; omega
      go_wp2_with fail
      refine (CNn.out _).mono ?_; rintro e w4 ⟨rfl, hx4⟩
      have hc4 : ∀ W, Ext (w4.alloc (.cells #[.pointer (some ⟨w.heap.size, 6, none⟩), .pointer (some ⟨w.heap.size, 7, none⟩), .pointer (some ⟨w.heap.size, 8, none⟩), .pointer (some ⟨w.heap.size, 9, none⟩), .pointer (some ⟨w.heap.size, 10, none⟩), .pointer (some ⟨w.heap.size, 11, none⟩), .pointer (some ⟨w.heap.size, 12, none⟩)] 177)) W →
          ∀ k, k < 7 → W.cell? ⟨w4.heap.size, k, none⟩ = some (.pointer (some ⟨w.heap.size, 6 + k, none⟩)) := fun W hW k hk => by
        refine hW.cell ?_
        rcases (show k = 0 ∨ k = 1 ∨ k = 2 ∨ k = 3 ∨ k = 4 ∨ k = 5 ∨ k = 6 by omega) with rfl | rfl | rfl | rfl | rfl | rfl | rfl <;> simp
      have hg4 : w1.heap.size < w4.heap.size := Nat.lt_of_lt_of_le hgl hx4.size
      go_wp2_with fail
      refine (CM.out _).mono ?_; rintro e w5 ⟨rfl, hx5⟩
      have hx45 : Ext wr w5 := hx4.trans (((Ext.refl _).alloc _).trans hx5)
      have hp5 := hc4 _ hx5
      have hr5 : WRel w1.heap.size w1 (RN 0) w5 := ⟨(hx45.block _ hgl).trans hrow0, hE.trans hx45⟩
      have Hp5 := Lib.hid hp5
      clear hp5 hc4 hrow0
      have hM7 : (M : Int) ≤ 7 := by omega
      have hM7' : M ≤ 7 := by omega
      go_wp2_with fail
      go_loopw [69] (fun i wr => ∃ k : Nat, k ≤ M ∧ i = .int .i64 (k : Int) ∧ Hid (∀ j, j < k → KS j = 0) ∧ Hid (WRel w1.heap.size w1 (RN k) wr) ∧ Hid (∀ j, j < 7 → wr.cell? ⟨w4.heap.size, j, none⟩ = some (.pointer (some ⟨w.heap.size, 6 + j, none⟩)))) (fun i _ => M - (intOf i).toNat)
      case atStart => exact ⟨0, by omega, rfl, Lib.hid (fun j hj => absurd hj (by omega)), Lib.hid hr5, Hp5⟩
      case round =>
        obtain ⟨k, hk, rfl, hks, hrel, hptr⟩ := hrel
        by_cases hlt : k < M
        · have hE2 := hrel.out.2
          have hrow := hrel.out.1
          have hpk := hptr.out k (by omega)
          have hcc := (CC.out _ (hx0.trans hE2)).2.2 k (by omega)
          have hgl2 := rowLt hrow
          have Hrow := Lib.hid hrow
          have Hlen := Lib.hid (NL.out k Hfit.out (fun j hj => HZ'.out j (by omega) (hks.out j hj)))
          clear hrow
          by_cases h0 : KS k = 0
          · have c := CW.out k hlt
            rw [h0, show errOf 0 = .nilIface from rfl] at c
            have CWk := Lib.hid c
            have hzk := HZ'.out k hlt h0
            have hks' : Hid (∀ j, j < k + 1 → KS j = 0) := Lib.hid (fun j hj => by
              rcases Nat.lt_succ_iff_lt_or_eq.1 hj with h | rfl
              · exact hks.out j h
              · exact h0)
            have hsp : Hid (splice (Lib.byteCells (RN k)) (nAt k) (Lib.byteCells (TS k).data.toList) = Lib.byteCells (RN (k + 1))) := Lib.hid (by rw [byteCells_splice, N1.out])
            have hfitk : nAt k + (TS k).size ≤ 512 := by have := nfit k; omega
            have hlb : Hid ((Lib.byteCells (RN k)).length = 512) := Lib.hid (by rw [byteCells_len]; exact Hlen.out)
            clear c h0 hzk
            rcases (show k = 0 ∨ k = 1 ∨ k = 2 ∨ k = 3 ∨ k = 4 ∨ k = 5 ∨ k = 6 by omega) with rfl | rfl | rfl | rfl | rfl | rfl | rfl
            · simp only [nLongI] at CWk
              simp only [nAt] at hfitk
              simp only [Nat.reduceAdd] at hcc hpk
              go_wp2_with fail
              refine (CSn.out _).mono ?_; rintro e w6 ⟨rfl, hx6⟩
              have hin := idxNs.1
              have hcc6 := hx6.cell hcc
              have hg6 : w.heap.size < w6.heap.size := World.block_lt_of_cell? w6 _ hcc6
              have hg6' : w.heap.size ≠ w6.heap.size := by omega
              go_wp2_with fail
              refine wp_region_det (Stood _) (by kernel_rfl) (by kernel_rfl) (Stood.start _) ?_
              repeat (first
                | (refine det_skip (by rfl) ?_; simp only [Act.put, List.setIfInBounds_toArray, List.set_cons_zero, List.set_cons_succ])
                | (refine det_op (v := ?_) rfl (by rfl) (fun w' hS => ?_) ?_; rotate_left; (focus (obtain ⟨hcl, hxt⟩ := hS; go_wp2_with (first | ((with_reducible refine (CWk.out _).mono ?_); rintro e w1 ⟨rfl, hx1⟩)); (first | refine ⟨?_, rfl, hcl, hxt⟩ | refine ⟨?_, rfl, Stood.of (hxt.trans (by assumption))⟩); (first | (simp only [List.getElem?_toArray, List.getElem?_cons_succ, List.getElem?_cons_zero]; rfl) | rfl))); simp only [Act.put, List.setIfInBounds_toArray, List.set_cons_zero, List.set_cons_succ]))
              refine det_end ?_
              intro w7 hS
              have hx7 := hS.2
              clear hS
              have hx67 : Ext wr w7 := hx6.trans (((Ext.refl _).alloc _).trans hx7)
              have Row7 := Lib.hid ((hx67.block _ hgl2).trans Hrow.out)
              obtain ⟨c9, c9'⟩ := box2_at hx7
              go_wp2_with (refine wpList_copy_str rfl (.tmp 93) (.tmp 94) 98 9 rfl 5 Tryz.underlying98 infoU8p w1.heap.size _ _ _ _ _ 168 rfl rfl Row7.out ?c1 ?c2 w1 w1.heap.size (hE2.trans hx67) (Nat.le_refl _) ?_)
              case c1 => omega
              case c2 => rw [hlb.out]; omega
              intro w8 hrow8 hB8 hsz8 hcl8
              have hp8 : Hid (∀ j, j < 7 → w8.cell? ⟨w4.heap.size, j, none⟩ = some (.pointer (some ⟨w.heap.size, 6 + j, none⟩))) := Lib.hid (fun j hj => (hcl8.out _ _ (by omega)).trans (hx67.cell (hptr.out j hj)))
              go_wp2_with fail
              go_roundw
              case rel => exact ⟨1, by omega, by go_num, hks', Lib.hid ⟨hrow8.out.trans (congrArg (fun C => some (Obj.cells (List.toArray C) 168 (0, 0))) hsp.out), hB8⟩, hp8⟩
              case measure => simp [intOf]; omega
            · simp only [nLongI] at CWk
              simp only [nAt] at hfitk
              simp only [Nat.reduceAdd] at hcc hpk
              go_wp2_with fail
              refine (CSn.out _).mono ?_; rintro e w6 ⟨rfl, hx6⟩
              have hin := idxNs.2.1
              have hcc6 := hx6.cell hcc
              have hg6 : w.heap.size < w6.heap.size := World.block_lt_of_cell? w6 _ hcc6
              have hg6' : w.heap.size ≠ w6.heap.size := by omega
              go_wp2_with fail
              refine wp_region_det (Stood _) (by kernel_rfl) (by kernel_rfl) (Stood.start _) ?_
              repeat (first
                | (refine det_skip (by rfl) ?_; simp only [Act.put, List.setIfInBounds_toArray, List.set_cons_zero, List.set_cons_succ])
                | (refine det_op (v := ?_) rfl (by rfl) (fun w' hS => ?_) ?_; rotate_left; (focus (obtain ⟨hcl, hxt⟩ := hS; go_wp2_with (first | ((with_reducible refine (CWk.out _).mono ?_); rintro e w1 ⟨rfl, hx1⟩)); (first | refine ⟨?_, rfl, hcl, hxt⟩ | refine ⟨?_, rfl, Stood.of (hxt.trans (by assumption))⟩); (first | (simp only [List.getElem?_toArray, List.getElem?_cons_succ, List.getElem?_cons_zero]; rfl) | rfl))); simp only [Act.put, List.setIfInBounds_toArray, List.set_cons_zero, List.set_cons_succ]))
              refine det_end ?_
              intro w7 hS
              have hx7 := hS.2
              clear hS
              have hx67 : Ext wr w7 := hx6.trans (((Ext.refl _).alloc _).trans hx7)
              have Row7 := Lib.hid ((hx67.block _ hgl2).trans Hrow.out)
              obtain ⟨c9, c9'⟩ := box2_at hx7
              go_wp2_with (refine wpList_copy_str rfl (.tmp 93) (.tmp 94) 98 9 rfl 5 Tryz.underlying98 infoU8p w1.heap.size _ _ _ _ _ 168 rfl rfl Row7.out ?c1 ?c2 w1 w1.heap.size (hE2.trans hx67) (Nat.le_refl _) ?_)
              case c1 => omega
              case c2 => rw [hlb.out]; omega
              intro w8 hrow8 hB8 hsz8 hcl8
              have hp8 : Hid (∀ j, j < 7 → w8.cell? ⟨w4.heap.size, j, none⟩ = some (.pointer (some ⟨w.heap.size, 6 + j, none⟩))) := Lib.hid (fun j hj => (hcl8.out _ _ (by omega)).trans (hx67.cell (hptr.out j hj)))
              go_wp2_with fail
              go_roundw
              case rel => exact ⟨2, by omega, by go_num, hks', Lib.hid ⟨hrow8.out.trans (congrArg (fun C => some (Obj.cells (List.toArray C) 168 (0, 0))) hsp.out), hB8⟩, hp8⟩
              case measure => simp [intOf]; omega
            · simp only [nLongI] at CWk
              simp only [nAt] at hfitk
              simp only [Nat.reduceAdd] at hcc hpk
              go_wp2_with fail
              refine (CSn.out _).mono ?_; rintro e w6 ⟨rfl, hx6⟩
              have hin := idxNs.2.2.1
              have hcc6 := hx6.cell hcc
              have hg6 : w.heap.size < w6.heap.size := World.block_lt_of_cell? w6 _ hcc6
              have hg6' : w.heap.size ≠ w6.heap.size := by omega
              go_wp2_with fail
              refine wp_region_det (Stood _) (by kernel_rfl) (by kernel_rfl) (Stood.start _) ?_
              repeat (first
                | (refine det_skip (by rfl) ?_; simp only [Act.put, List.setIfInBounds_toArray, List.set_cons_zero, List.set_cons_succ])
                | (refine det_op (v := ?_) rfl (by rfl) (fun w' hS => ?_) ?_; rotate_left; (focus (obtain ⟨hcl, hxt⟩ := hS; go_wp2_with (first | ((with_reducible refine (CWk.out _).mono ?_); rintro e w1 ⟨rfl, hx1⟩)); (first | refine ⟨?_, rfl, hcl, hxt⟩ | refine ⟨?_, rfl, Stood.of (hxt.trans (by assumption))⟩); (first | (simp only [List.getElem?_toArray, List.getElem?_cons_succ, List.getElem?_cons_zero]; rfl) | rfl))); simp only [Act.put, List.setIfInBounds_toArray, List.set_cons_zero, List.set_cons_succ]))
              refine det_end ?_
              intro w7 hS
              have hx7 := hS.2
              clear hS
              have hx67 : Ext wr w7 := hx6.trans (((Ext.refl _).alloc _).trans hx7)
              have Row7 := Lib.hid ((hx67.block _ hgl2).trans Hrow.out)
              obtain ⟨c9, c9'⟩ := box2_at hx7
              go_wp2_with (refine wpList_copy_str rfl (.tmp 93) (.tmp 94) 98 9 rfl 5 Tryz.underlying98 infoU8p w1.heap.size _ _ _ _ _ 168 rfl rfl Row7.out ?c1 ?c2 w1 w1.heap.size (hE2.trans hx67) (Nat.le_refl _) ?_)
              case c1 => omega
              case c2 => rw [hlb.out]; omega
              intro w8 hrow8 hB8 hsz8 hcl8
              have hp8 : Hid (∀ j, j < 7 → w8.cell? ⟨w4.heap.size, j, none⟩ = some (.pointer (some ⟨w.heap.size, 6 + j, none⟩))) := Lib.hid (fun j hj => (hcl8.out _ _ (by omega)).trans (hx67.cell (hptr.out j hj)))
              go_wp2_with fail
              go_roundw
              case rel => exact ⟨3, by omega, by go_num, hks', Lib.hid ⟨hrow8.out.trans (congrArg (fun C => some (Obj.cells (List.toArray C) 168 (0, 0))) hsp.out), hB8⟩, hp8⟩
              case measure => simp [intOf]; omega
            · simp only [nLongI] at CWk
              simp only [nAt] at hfitk
              simp only [Nat.reduceAdd] at hcc hpk
              go_wp2_with fail
              refine (CSn.out _).mono ?_; rintro e w6 ⟨rfl, hx6⟩
              have hin := idxNs.2.2.2.1
              have hcc6 := hx6.cell hcc
              have hg6 : w.heap.size < w6.heap.size := World.block_lt_of_cell? w6 _ hcc6
              have hg6' : w.heap.size ≠ w6.heap.size := by omega
              go_wp2_with fail
              refine wp_region_det (Stood _) (by kernel_rfl) (by kernel_rfl) (Stood.start _) ?_
              repeat (first
                | (refine det_skip (by rfl) ?_; simp only [Act.put, List.setIfInBounds_toArray, List.set_cons_zero, List.set_cons_succ])
                | (refine det_op (v := ?_) rfl (by rfl) (fun w' hS => ?_) ?_; rotate_left; (focus (obtain ⟨hcl, hxt⟩ := hS; go_wp2_with (first | ((with_reducible refine (CWk.out _).mono ?_); rintro e w1 ⟨rfl, hx1⟩)); (first | refine ⟨?_, rfl, hcl, hxt⟩ | refine ⟨?_, rfl, Stood.of (hxt.trans (by assumption))⟩); (first | (simp only [List.getElem?_toArray, List.getElem?_cons_succ, List.getElem?_cons_zero]; rfl) | rfl))); simp only [Act.put, List.setIfInBounds_toArray, List.set_cons_zero, List.set_cons_succ]))
              refine det_end ?_
              intro w7 hS
              have hx7 := hS.2
              clear hS
              have hx67 : Ext wr w7 := hx6.trans (((Ext.refl _).alloc _).trans hx7)
              have Row7 := Lib.hid ((hx67.block _ hgl2).trans Hrow.out)
              obtain ⟨c9, c9'⟩ := box2_at hx7
              go_wp2_with (refine wpList_copy_str rfl (.tmp 93) (.tmp 94) 98 9 rfl 5 Tryz.underlying98 infoU8p w1.heap.size _ _ _ _ _ 168 rfl rfl Row7.out ?c1 ?c2 w1 w1.heap.size (hE2.trans hx67) (Nat.le_refl _) ?_)
              case c1 => omega
              case c2 => rw [hlb.out]; omega
              intro w8 hrow8 hB8 hsz8 hcl8
              have hp8 : Hid (∀ j, j < 7 → w8.cell? ⟨w4.heap.size, j, none⟩ = some (.pointer (some ⟨w.heap.size, 6 + j, none⟩))) := Lib.hid (fun j hj => (hcl8.out _ _ (by omega)).trans (hx67.cell (hptr.out j hj)))
              go_wp2_with fail
              go_roundw
              case rel => exact ⟨4, by omega, by go_num, hks', Lib.hid ⟨hrow8.out.trans (congrArg (fun C => some (Obj.cells (List.toArray C) 168 (0, 0))) hsp.out), hB8⟩, hp8⟩
              case measure => simp [intOf]; omega
            · simp only [nLongI] at CWk
              simp only [nAt] at hfitk
              simp only [Nat.reduceAdd] at hcc hpk
              go_wp2_with fail
              refine (CSn.out _).mono ?_; rintro e w6 ⟨rfl, hx6⟩
              have hin := idxNs.2.2.2.2.1
              have hcc6 := hx6.cell hcc
              have hg6 : w.heap.size < w6.heap.size := World.block_lt_of_cell? w6 _ hcc6
              have hg6' : w.heap.size ≠ w6.heap.size := by omega
              go_wp2_with fail
              refine wp_region_det (Stood _) (by kernel_rfl) (by kernel_rfl) (Stood.start _) ?_
              repeat (first
                | (refine det_skip (by rfl) ?_; simp only [Act.put, List.setIfInBounds_toArray, List.set_cons_zero, List.set_cons_succ])
                | (refine det_op (v := ?_) rfl (by rfl) (fun w' hS => ?_) ?_; rotate_left; (focus (obtain ⟨hcl, hxt⟩ := hS; go_wp2_with (first | ((with_reducible refine (CWk.out _).mono ?_); rintro e w1 ⟨rfl, hx1⟩)); (first | refine ⟨?_, rfl, hcl, hxt⟩ | refine ⟨?_, rfl, Stood.of (hxt.trans (by assumption))⟩); (first | (simp only [List.getElem?_toArray, List.getElem?_cons_succ, List.getElem?_cons_zero]; rfl) | rfl))); simp only [Act.put, List.setIfInBounds_toArray, List.set_cons_zero, List.set_cons_succ]))
              refine det_end ?_
              intro w7 hS
              have hx7 := hS.2
              clear hS
              have hx67 : Ext wr w7 := hx6.trans (((Ext.refl _).alloc _).trans hx7)
              have Row7 := Lib.hid ((hx67.block _ hgl2).trans Hrow.out)
              obtain ⟨c9, c9'⟩ := box2_at hx7
              go_wp2_with (refine wpList_copy_str rfl (.tmp 93) (.tmp 94) 98 9 rfl 5 Tryz.underlying98 infoU8p w1.heap.size _ _ _ _ _ 168 rfl rfl Row7.out ?c1 ?c2 w1 w1.heap.size (hE2.trans hx67) (Nat.le_refl _) ?_)
              case c1 => omega
              case c2 => rw [hlb.out]; omega
              intro w8 hrow8 hB8 hsz8 hcl8
              have hp8 : Hid (∀ j, j < 7 → w8.cell? ⟨w4.heap.size, j, none⟩ = some (.pointer (some ⟨w.heap.size, 6 + j, none⟩))) := Lib.hid (fun j hj => (hcl8.out _ _ (by omega)).trans (hx67.cell (hptr.out j hj)))
              go_wp2_with fail
              go_roundw
              case rel => exact ⟨5, by omega, by go_num, hks', Lib.hid ⟨hrow8.out.trans (congrArg (fun C => some (Obj.cells (List.toArray C) 168 (0, 0))) hsp.out), hB8⟩, hp8⟩
              case measure => simp [intOf]; omega
            · simp only [nLongI] at CWk
              simp only [nAt] at hfitk
              simp only [Nat.reduceAdd] at hcc hpk
              go_wp2_with fail
              refine (CSn.out _).mono ?_; rintro e w6 ⟨rfl, hx6⟩
              have hin := idxNs.2.2.2.2.2.1
              have hcc6 := hx6.cell hcc
              have hg6 : w.heap.size < w6.heap.size := World.block_lt_of_cell? w6 _ hcc6
              have hg6' : w.heap.size ≠ w6.heap.size := by omega
              go_wp2_with fail
              refine wp_region_det (Stood _) (by kernel_rfl) (by kernel_rfl) (Stood.start _) ?_
              repeat (first
                | (refine det_skip (by rfl) ?_; simp only [Act.put, List.setIfInBounds_toArray, List.set_cons_zero, List.set_cons_succ])
                | (refine det_op (v := ?_) rfl (by rfl) (fun w' hS => ?_) ?_; rotate_left; (focus (obtain ⟨hcl, hxt⟩ := hS; go_wp2_with (first | ((with_reducible refine (CWk.out _).mono ?_); rintro e w1 ⟨rfl, hx1⟩)); (first | refine ⟨?_, rfl, hcl, hxt⟩ | refine ⟨?_, rfl, Stood.of (hxt.trans (by assumption))⟩); (first | (simp only [List.getElem?_toArray, List.getElem?_cons_succ, List.getElem?_cons_zero]; rfl) | rfl))); simp only [Act.put, List.setIfInBounds_toArray, List.set_cons_zero, List.set_cons_succ]))
              refine det_end ?_
              intro w7 hS
              have hx7 := hS.2
              clear hS
              have hx67 : Ext wr w7 := hx6.trans (((Ext.refl _).alloc _).trans hx7)
              have Row7 := Lib.hid ((hx67.block _ hgl2).trans Hrow.out)
              obtain ⟨c9, c9'⟩ := box2_at hx7
              go_wp2_with (refine wpList_copy_str rfl (.tmp 93) (.tmp 94) 98 9 rfl 5 Tryz.underlying98 infoU8p w1.heap.size _ _ _ _ _ 168 rfl rfl Row7.out ?c1 ?c2 w1 w1.heap.size (hE2.trans hx67) (Nat.le_refl _) ?_)
              case c1 => omega
              case c2 => rw [hlb.out]; omega
              intro w8 hrow8 hB8 hsz8 hcl8
              have hp8 : Hid (∀ j, j < 7 → w8.cell? ⟨w4.heap.size, j, none⟩ = some (.pointer (some ⟨w.heap.size, 6 + j, none⟩))) := Lib.hid (fun j hj => (hcl8.out _ _ (by omega)).trans (hx67.cell (hptr.out j hj)))
              go_wp2_with fail
              go_roundw
              case rel => exact ⟨6, by omega, by go_num, hks', Lib.hid ⟨hrow8.out.trans (congrArg (fun C => some (Obj.cells (List.toArray C) 168 (0, 0))) hsp.out), hB8⟩, hp8⟩
              case measure => simp [intOf]; omega
            · simp only [nLongI] at CWk
              simp only [nAt] at hfitk
              simp only [Nat.reduceAdd] at hcc hpk
              go_wp2_with fail
              refine (CSn.out _).mono ?_; rintro e w6 ⟨rfl, hx6⟩
              have hin := idxNs.2.2.2.2.2.2
              have hcc6 := hx6.cell hcc
              have hg6 : w.heap.size < w6.heap.size := World.block_lt_of_cell? w6 _ hcc6
              have hg6' : w.heap.size ≠ w6.heap.size := by omega
              go_wp2_with fail
              refine wp_region_det (Stood _) (by kernel_rfl) (by kernel_rfl) (Stood.start _) ?_
              repeat (first
                | (refine det_skip (by rfl) ?_; simp only [Act.put, List.setIfInBounds_toArray, List.set_cons_zero, List.set_cons_succ])
                | (refine det_op (v := ?_) rfl (by rfl) (fun w' hS => ?_) ?_; rotate_left; (focus (obtain ⟨hcl, hxt⟩ := hS; go_wp2_with (first | ((with_reducible refine (CWk.out _).mono ?_); rintro e w1 ⟨rfl, hx1⟩)); (first | refine ⟨?_, rfl, hcl, hxt⟩ | refine ⟨?_, rfl, Stood.of (hxt.trans (by assumption))⟩); (first | (simp only [List.getElem?_toArray, List.getElem?_cons_succ, List.getElem?_cons_zero]; rfl) | rfl))); simp only [Act.put, List.setIfInBounds_toArray, List.set_cons_zero, List.set_cons_succ]))
              refine det_end ?_
              intro w7 hS
              have hx7 := hS.2
              clear hS
              have hx67 : Ext wr w7 := hx6.trans (((Ext.refl _).alloc _).trans hx7)
              have Row7 := Lib.hid ((hx67.block _ hgl2).trans Hrow.out)
              obtain ⟨c9, c9'⟩ := box2_at hx7
              go_wp2_with (refine wpList_copy_str rfl (.tmp 93) (.tmp 94) 98 9 rfl 5 Tryz.underlying98 infoU8p w1.heap.size _ _ _ _ _ 168 rfl rfl Row7.out ?c1 ?c2 w1 w1.heap.size (hE2.trans hx67) (Nat.le_refl _) ?_)
              case c1 => omega
              case c2 => rw [hlb.out]; omega
              intro w8 hrow8 hB8 hsz8 hcl8
              have hp8 : Hid (∀ j, j < 7 → w8.cell? ⟨w4.heap.size, j, none⟩ = some (.pointer (some ⟨w.heap.size, 6 + j, none⟩))) := Lib.hid (fun j hj => (hcl8.out _ _ (by omega)).trans (hx67.cell (hptr.out j hj)))
              go_wp2_with fail
              go_roundw
              case rel => exact ⟨7, by omega, by go_num, hks', Lib.hid ⟨hrow8.out.trans (congrArg (fun C => some (Obj.cells (List.toArray C) 168 (0, 0))) hsp.out), hB8⟩, hp8⟩
              case measure => simp [intOf]; omega
          · have c := CW.out k hlt
            rw [errOf_ne h0] at c
            have CWk := Lib.hid c
            have hV := Lib.hid (V2.out k hlt h0)
            clear c h0
            rcases (show k = 0 ∨ k = 1 ∨ k = 2 ∨ k = 3 ∨ k = 4 ∨ k = 5 ∨ k = 6 by omega) with rfl | rfl | rfl | rfl | rfl | rfl | rfl
            · simp only [nLongI] at CWk
              simp only [Nat.reduceAdd] at hcc hpk
              go_wp2_with fail
              refine (CSn.out _).mono ?_; rintro e w6 ⟨rfl, hx6⟩
              have hin := idxNs.1
              have hcc6 := hx6.cell hcc
              have hg6 : w.heap.size < w6.heap.size := World.block_lt_of_cell? w6 _ hcc6
              have hg6' : w.heap.size ≠ w6.heap.size := by omega
              go_wp2_with fail
              refine wp_region_det (Stood _) (by kernel_rfl) (by kernel_rfl) (Stood.start _) ?_
              repeat (first
                | (refine det_skip (by rfl) ?_; simp only [Act.put, List.setIfInBounds_toArray, List.set_cons_zero, List.set_cons_succ])
                | (refine det_op (v := ?_) rfl (by rfl) (fun w' hS => ?_) ?_; rotate_left; (focus (obtain ⟨hcl, hxt⟩ := hS; go_wp2_with (first | ((with_reducible refine (CWk.out _).mono ?_); rintro e w1 ⟨rfl, hx1⟩)); (first | refine ⟨?_, rfl, hcl, hxt⟩ | refine ⟨?_, rfl, Stood.of (hxt.trans (by assumption))⟩); (first | (simp only [List.getElem?_toArray, List.getElem?_cons_succ, List.getElem?_cons_zero]; rfl) | rfl))); simp only [Act.put, List.setIfInBounds_toArray, List.set_cons_zero, List.set_cons_succ]))
              refine det_end ?_
              intro w7 hS
              have hx7 := hS.2
              clear hS
              go_wp2_with fail
              go_ret2
              exact ⟨ret_val (by rw [hV.out]; rfl), (hxw.trans hE2).trans (hx6.trans (((Ext.refl _).alloc _).trans hx7))⟩
            · simp only [nLongI] at CWk
              simp only [Nat.reduceAdd] at hcc hpk
              go_wp2_with fail
              refine (CSn.out _).mono ?_; rintro e w6 ⟨rfl, hx6⟩
              have hin := idxNs.2.1
              have hcc6 := hx6.cell hcc
              have hg6 : w.heap.size < w6.heap.size := World.block_lt_of_cell? w6 _ hcc6
              have hg6' : w.heap.size ≠ w6.heap.size := by omega
              go_wp2_with fail
              refine wp_region_det (Stood _) (by kernel_rfl) (by kernel_rfl) (Stood.start _) ?_
              repeat (first
                | (refine det_skip (by rfl) ?_; simp only [Act.put, List.setIfInBounds_toArray, List.set_cons_zero, List.set_cons_succ])
                | (refine det_op (v := ?_) rfl (by rfl) (fun w' hS => ?_) ?_; rotate_left; (focus (obtain ⟨hcl, hxt⟩ := hS; go_wp2_with (first | ((with_reducible refine (CWk.out _).mono ?_); rintro e w1 ⟨rfl, hx1⟩)); (first | refine ⟨?_, rfl, hcl, hxt⟩ | refine ⟨?_, rfl, Stood.of (hxt.trans (by assumption))⟩); (first | (simp only [List.getElem?_toArray, List.getElem?_cons_succ, List.getElem?_cons_zero]; rfl) | rfl))); simp only [Act.put, List.setIfInBounds_toArray, List.set_cons_zero, List.set_cons_succ]))
              refine det_end ?_
              intro w7 hS
              have hx7 := hS.2
              clear hS
              go_wp2_with fail
              go_ret2
              exact ⟨ret_val (by rw [hV.out]; rfl), (hxw.trans hE2).trans (hx6.trans (((Ext.refl _).alloc _).trans hx7))⟩
            · simp only [nLongI] at CWk
              simp only [Nat.reduceAdd] at hcc hpk
              go_wp2_with fail
              refine (CSn.out _).mono ?_; rintro e w6 ⟨rfl, hx6⟩
              have hin := idxNs.2.2.1
              have hcc6 := hx6.cell hcc
              have hg6 : w.heap.size < w6.heap.size := World.block_lt_of_cell? w6 _ hcc6
              have hg6' : w.heap.size ≠ w6.heap.size := by omega
              go_wp2_with fail
              refine wp_region_det (Stood _) (by kernel_rfl) (by kernel_rfl) (Stood.start _) ?_
              repeat (first
                | (refine det_skip (by rfl) ?_; simp only [Act.put, List.setIfInBounds_toArray, List.set_cons_zero, List.set_cons_succ])
                | (refine det_op (v := ?_) rfl (by rfl) (fun w' hS => ?_) ?_; rotate_left; (focus (obtain ⟨hcl, hxt⟩ := hS; go_wp2_with (first | ((with_reducible refine (CWk.out _).mono ?_); rintro e w1 ⟨rfl, hx1⟩)); (first | refine ⟨?_, rfl, hcl, hxt⟩ | refine ⟨?_, rfl, Stood.of (hxt.trans (by assumption))⟩); (first | (simp only [List.getElem?_toArray, List.getElem?_cons_succ, List.getElem?_cons_zero]; rfl) | rfl))); simp only [Act.put, List.setIfInBounds_toArray, List.set_cons_zero, List.set_cons_succ]))
              refine det_end ?_
              intro w7 hS
              have hx7 := hS.2
              clear hS
              go_wp2_with fail
              go_ret2
              exact ⟨ret_val (by rw [hV.out]; rfl), (hxw.trans hE2).trans (hx6.trans (((Ext.refl _).alloc _).trans hx7))⟩
            · simp only [nLongI] at CWk
              simp only [Nat.reduceAdd] at hcc hpk
              go_wp2_with fail
              refine (CSn.out _).mono ?_; rintro e w6 ⟨rfl, hx6⟩
              have hin := idxNs.2.2.2.1
              have hcc6 := hx6.cell hcc
              have hg6 : w.heap.size < w6.heap.size := World.block_lt_of_cell? w6 _ hcc6
              have hg6' : w.heap.size ≠ w6.heap.size := by omega
              go_wp2_with fail
              refine wp_region_det (Stood _) (by kernel_rfl) (by kernel_rfl) (Stood.start _) ?_
              repeat (first
                | (refine det_skip (by rfl) ?_; simp only [Act.put, List.setIfInBounds_toArray, List.set_cons_zero, List.set_cons_succ])
                | (refine det_op (v := ?_) rfl (by rfl) (fun w' hS => ?_) ?_; rotate_left; (focus (obtain ⟨hcl, hxt⟩ := hS; go_wp2_with (first | ((with_reducible refine (CWk.out _).mono ?_); rintro e w1 ⟨rfl, hx1⟩)); (first | refine ⟨?_, rfl, hcl, hxt⟩ | refine ⟨?_, rfl, Stood.of (hxt.trans (by assumption))⟩); (first | (simp only [List.getElem?_toArray, List.getElem?_cons_succ, List.getElem?_cons_zero]; rfl) | rfl))); simp only [Act.put, List.setIfInBounds_toArray, List.set_cons_zero, List.set_cons_succ]))
              refine det_end ?_
              intro w7 hS
              have hx7 := hS.2
              clear hS
              go_wp2_with fail
              go_ret2
              exact ⟨ret_val (by rw [hV.out]; rfl), (hxw.trans hE2).trans (hx6.trans (((Ext.refl _).alloc _).trans hx7))⟩
            · simp only [nLongI] at CWk
              simp only [Nat.reduceAdd] at hcc hpk
              go_wp2_with fail
              refine (CSn.out _).mono ?_; rintro e w6 ⟨rfl, hx6⟩
              have hin := idxNs.2.2.2.2.1
              have hcc6 := hx6.cell hcc
              have hg6 : w.heap.size < w6.heap.size := World.block_lt_of_cell? w6 _ hcc6
              have hg6' : w.heap.size ≠ w6.heap.size := by omega
              go_wp2_with fail
              refine wp_region_det (Stood _) (by kernel_rfl) (by kernel_rfl) (Stood.start _) ?_
              repeat (first
                | (refine det_skip (by rfl) ?_; simp only [Act.put, List.setIfInBounds_toArray, List.set_cons_zero, List.set_cons_succ])
                | (refine det_op (v := ?_) rfl (by rfl) (fun w' hS => ?_) ?_; rotate_left; (focus (obtain ⟨hcl, hxt⟩ := hS; go_wp2_with (first | ((with_reducible refine (CWk.out _).mono ?_); rintro e w1 ⟨rfl, hx1⟩)); (first | refine ⟨?_, rfl, hcl, hxt⟩ | refine ⟨?_, rfl, Stood.of (hxt.trans (by assumption))⟩); (first | (simp only [List.getElem?_toArray, List.getElem?_cons_succ, List.getElem?_cons_zero]; rfl) | rfl))); simp only [Act.put, List.setIfInBounds_toArray, List.set_cons_zero, List.set_cons_succ]))
              refine det_end ?_
              intro w7 hS
              have hx7 := hS.2
              clear hS
              go_wp2_with fail
              go_ret2
              exact ⟨ret_val (by rw [hV.out]; rfl), (hxw.trans hE2).trans (hx6.trans (((Ext.refl _).alloc _).trans hx7))⟩
            · simp only [nLongI] at CWk
              simp only [Nat.reduceAdd] at hcc hpk
              go_wp2_with fail
              refine (CSn.out _).mono ?_; rintro e w6 ⟨rfl, hx6⟩
              have hin := idxNs.2.2.2.2.2.1
              have hcc6 := hx6.cell hcc
              have hg6 : w.heap.size < w6.heap.size := World.block_lt_of_cell? w6 _ hcc6
              have hg6' : w.heap.size ≠ w6.heap.size := by omega
              go_wp2_with fail
              refine wp_region_det (Stood _) (by kernel_rfl) (by kernel_rfl) (Stood.start _) ?_
              repeat (first
                | (refine det_skip (by rfl) ?_; simp only [Act.put, List.setIfInBounds_toArray, List.set_cons_zero, List.set_cons_succ])
                | (refine det_op (v := ?_) rfl (by rfl) (fun w' hS => ?_) ?_; rotate_left; (focus (obtain ⟨hcl, hxt⟩ := hS; go_wp2_with (first | ((with_reducible refine (CWk.out _).mono ?_); rintro e w1 ⟨rfl, hx1⟩)); (first | refine ⟨?_, rfl, hcl, hxt⟩ | refine ⟨?_, rfl, Stood.of (hxt.trans (by assumption))⟩); (first | (simp only [List.getElem?_toArray, List.getElem?_cons_succ, List.getElem?_cons_zero]; rfl) | rfl))); simp only [Act.put, List.setIfInBounds_toArray, List.set_cons_zero, List.set_cons_succ]))
              refine det_end ?_
              intro w7 hS
              have hx7 := hS.2
              clear hS
              go_wp2_with fail
              go_ret2
              exact ⟨ret_val (by rw [hV.out]; rfl), (hxw.trans hE2).trans (hx6.trans (((Ext.refl _).alloc _).trans hx7))⟩
            · simp only [nLongI] at CWk
              simp only [Nat.reduceAdd] at hcc hpk
              go_wp2_with fail
              refine (CSn.out _).mono ?_; rintro e w6 ⟨rfl, hx6⟩
              have hin := idxNs.2.2.2.2.2.2
              have hcc6 := hx6.cell hcc
              have hg6 : w.heap.size < w6.heap.size := World.block_lt_of_cell? w6 _ hcc6
              have hg6' : w.heap.size ≠ w6.heap.size := by omega
              go_wp2_with fail
              refine wp_region_det (Stood _) (by kernel_rfl) (by kernel_rfl) (Stood.start _) ?_
              repeat (first
                | (refine det_skip (by rfl) ?_; simp only [Act.put, List.setIfInBounds_toArray, List.set_cons_zero, List.set_cons_succ])
                | (refine det_op (v := ?_) rfl (by rfl) (fun w' hS => ?_) ?_; rotate_left; (focus (obtain ⟨hcl, hxt⟩ := hS; go_wp2_with (first | ((with_reducible refine (CWk.out _).mono ?_); rintro e w1 ⟨rfl, hx1⟩)); (first | refine ⟨?_, rfl, hcl, hxt⟩ | refine ⟨?_, rfl, Stood.of (hxt.trans (by assumption))⟩); (first | (simp only [List.getElem?_toArray, List.getElem?_cons_succ, List.getElem?_cons_zero]; rfl) | rfl))); simp only [Act.put, List.setIfInBounds_toArray, List.set_cons_zero, List.set_cons_succ]))
              refine det_end ?_
              intro w7 hS
              have hx7 := hS.2
              clear hS
              go_wp2_with fail
              go_ret2
              exact ⟨ret_val (by rw [hV.out]; rfl), (hxw.trans hE2).trans (hx6.trans (((Ext.refl _).alloc _).trans hx7))⟩
        · obtain rfl : k = M := by omega
          have hE2 := hrel.out.2
          have hrow := hrel.out.1
          have hcc := (CC.out _ (hx0.trans hE2)).2.1
          have hgl2 := rowLt hrow
          have hlen := NL.out k Hfit.out (fun j hj => HZ'.out j hj (hks.out j hj))
          have hV := V3.out Hfit.out hks.out
          obtain ⟨kb, hkb⟩ : ∃ kb : UInt8, kb = UInt8.ofNat kd.toNat := ⟨_, rfl⟩
          have hkd : (kb.toNat : Int) = kd := by rw [hkb, UInt8.toNat_ofNat']; omega
          obtain ⟨b0, c156⟩ : ∃ b0 : Int, wr.cell? ⟨w1.heap.size, 156, none⟩ = some (.int .u8 b0) := ⟨_, (bytesAt_any hrow).1 156 (by omega)⟩
          have f156 := (bytesAt_any hrow).2 156 (by omega)
          have hkr : (wr.setCell ⟨w1.heap.size, 156, none⟩ (.int .u8 kd)).heap[w1.heap.size]? = some (.cells (Lib.byteCells (splice (RN k) 156 [kb])).toArray 168 (0, 0)) := by
            rw [← byteCells_set _ _ _ (by omega), hkd]
            exact cells_setCell hrow
          have hl2 : (splice (RN k) 156 [kb]).length = 512 := by rw [splice_len (by rw [hlen]; simp), hlen]
          have Hkr := Lib.hid hkr
          have Hlen := Lib.hid hlen
          have Hkd := Lib.hid hkd
          have Hkb := Lib.hid hkb
          clear hkb
          clear hrow hlen hkd hrel hptr Hp5 hr5 Hm hM7 hM7' hlt
          rcases (show f = 1 ∨ f = 2 ∨ f = 3 ∨ f = 4 by omega) with rfl | rfl | rfl | rfl
          · have hZ : Z = ⟨(splice (RN k) 156 [kb]).toArray⟩ := by rw [ZN.out, Hkb.out]; rfl
            rw [hZ] at hV
            have CL := fun w => seal_any ⟨(splice (RN k) 156 [kb]).toArray⟩ w (by show Array.size _ ≤ _; rw [List.size_toArray, hl2]; decide)
            have hcv := (bytesAt_any hkr).conv 512 512 hl2
            have CL' := Lib.hid CL
            have HV := Lib.hid hV
            clear CL hV hkr hZ
            go_wp2_with fail
            refine (CL'.out _).mono ?_; rintro e w9 ⟨rfl, hx9⟩
            go_wp2_with fail
            go_ret2
            exact ⟨ret_val (by rw [HV.out]; rfl), (hxw.trans (Below.setCell hE2 (p := ⟨w1.heap.size, 156, none⟩) (Nat.le_refl _) _)).trans hx9⟩
          · have hZ : Z = ⟨(splice (splice (RN k) 156 [kb]) 257 (⟨#[117, 115, 116, 97, 114, 0, 48, 48]⟩ : ByteArray).data.toList).toArray⟩ := by rw [ZN.out, Hkb.out]; rfl
            have hl3 : (splice (splice (RN k) 156 [kb]) 257 (⟨#[117, 115, 116, 97, 114, 0, 48, 48]⟩ : ByteArray).data.toList).length = 512 := by rw [splice_len (by rw [hl2]; decide), hl2]
            rw [hZ] at hV
            have CL := fun w => seal_any ⟨(splice (splice (RN k) 156 [kb]) 257 (⟨#[117, 115, 116, 97, 114, 0, 48, 48]⟩ : ByteArray).data.toList).toArray⟩ w (by show Array.size _ ≤ _; rw [List.size_toArray, hl3]; decide)
            have CL' := Lib.hid CL
            have HV := Lib.hid hV
            have Hl3 := Lib.hid hl3
            have Hlb := Lib.hid (show (Lib.byteCells (splice (RN k) 156 [kb])).length = 512 by rw [byteCells_len]; exact hl2)
            clear CL hV hkr hZ hl2 hl3
            go_wp2_with (refine wpList_copy_str rfl (.tmp 104) (.const (.string ⟨#[117, 115, 116, 97, 114, 0, 48, 48]⟩)) 98 9 rfl 5 Tryz.underlying98 infoU8p w1.heap.size _ _ _ _ _ 168 rfl rfl Hkr.out (by decide) (by rw [Hlb.out]; decide) w1 w1.heap.size (Below.setCell hE2 (p := ⟨w1.heap.size, 156, none⟩) (Nat.le_refl _) _) (Nat.le_refl _) ?_)
            intro w8 hrow8 hB8 hsz8 hcl8
            have hcv := (bytesAt_any (hrow8.out.trans (congrArg (fun C => some (Obj.cells (List.toArray C) 168 (0, 0))) (byteCells_splice _ _ _)))).conv 512 512 Hl3.out
            go_wp2_with fail
            refine (CL'.out _).mono ?_; rintro e w9 ⟨rfl, hx9⟩
            go_wp2_with fail
            go_ret2
            exact ⟨ret_val (by rw [HV.out]; rfl), (hxw.trans hB8).trans hx9⟩
          · have hZ : Z = ⟨(splice (splice (RN k) 156 [kb]) 257 (⟨#[117, 115, 116, 97, 114, 32, 32, 0]⟩ : ByteArray).data.toList).toArray⟩ := by rw [ZN.out, Hkb.out]; rfl
            have hl3 : (splice (splice (RN k) 156 [kb]) 257 (⟨#[117, 115, 116, 97, 114, 32, 32, 0]⟩ : ByteArray).data.toList).length = 512 := by rw [splice_len (by rw [hl2]; decide), hl2]
            rw [hZ] at hV
            have CL := fun w => seal_any ⟨(splice (splice (RN k) 156 [kb]) 257 (⟨#[117, 115, 116, 97, 114, 32, 32, 0]⟩ : ByteArray).data.toList).toArray⟩ w (by show Array.size _ ≤ _; rw [List.size_toArray, hl3]; decide)
            have CL' := Lib.hid CL
            have HV := Lib.hid hV
            have Hl3 := Lib.hid hl3
            have Hlb := Lib.hid (show (Lib.byteCells (splice (RN k) 156 [kb])).length = 512 by rw [byteCells_len]; exact hl2)
            clear CL hV hkr hZ hl2 hl3
            go_wp2_with (refine wpList_copy_str rfl (.tmp 108) (.const (.string ⟨#[117, 115, 116, 97, 114, 32, 32, 0]⟩)) 98 9 rfl 5 Tryz.underlying98 infoU8p w1.heap.size _ _ _ _ _ 168 rfl rfl Hkr.out (by decide) (by rw [Hlb.out]; decide) w1 w1.heap.size (Below.setCell hE2 (p := ⟨w1.heap.size, 156, none⟩) (Nat.le_refl _) _) (Nat.le_refl _) ?_)
            intro w8 hrow8 hB8 hsz8 hcl8
            have hcv := (bytesAt_any (hrow8.out.trans (congrArg (fun C => some (Obj.cells (List.toArray C) 168 (0, 0))) (byteCells_splice _ _ _)))).conv 512 512 Hl3.out
            go_wp2_with fail
            refine (CL'.out _).mono ?_; rintro e w9 ⟨rfl, hx9⟩
            go_wp2_with fail
            go_ret2
            exact ⟨ret_val (by rw [HV.out]; rfl), (hxw.trans hB8).trans hx9⟩
          · have hZ : Z = ⟨(splice (splice (RN k) 156 [kb]) 257 (⟨#[117, 115, 116, 97, 114, 0, 48, 48]⟩ : ByteArray).data.toList).toArray⟩ := by rw [ZN.out, Hkb.out]; rfl
            have hl3 : (splice (splice (RN k) 156 [kb]) 257 (⟨#[117, 115, 116, 97, 114, 0, 48, 48]⟩ : ByteArray).data.toList).length = 512 := by rw [splice_len (by rw [hl2]; decide), hl2]
            rw [hZ] at hV
            have CL := fun w => seal_any ⟨(splice (splice (RN k) 156 [kb]) 257 (⟨#[117, 115, 116, 97, 114, 0, 48, 48]⟩ : ByteArray).data.toList).toArray⟩ w (by show Array.size _ ≤ _; rw [List.size_toArray, hl3]; decide)
            have CL' := Lib.hid CL
            have HV := Lib.hid hV
            have Hl3 := Lib.hid hl3
            have Hlb := Lib.hid (show (Lib.byteCells (splice (RN k) 156 [kb])).length = 512 by rw [byteCells_len]; exact hl2)
            clear CL hV hkr hZ hl2 hl3
            go_wp2_with (refine wpList_copy_str rfl (.tmp 104) (.const (.string ⟨#[117, 115, 116, 97, 114, 0, 48, 48]⟩)) 98 9 rfl 5 Tryz.underlying98 infoU8p w1.heap.size _ _ _ _ _ 168 rfl rfl Hkr.out (by decide) (by rw [Hlb.out]; decide) w1 w1.heap.size (Below.setCell hE2 (p := ⟨w1.heap.size, 156, none⟩) (Nat.le_refl _) _) (Nat.le_refl _) ?_)
            intro w8 hrow8 hB8 hsz8 hcl8
            have hcv := (bytesAt_any (hrow8.out.trans (congrArg (fun C => some (Obj.cells (List.toArray C) 168 (0, 0))) (byteCells_splice _ _ _)))).conv 512 512 Hl3.out
            go_wp2_with fail
            refine (CL'.out _).mono ?_; rintro e w9 ⟨rfl, hx9⟩
            go_wp2_with fail
            go_ret2
            exact ⟨ret_val (by rw [HV.out]; rfl), (hxw.trans hB8).trans hx9⟩
end Go.Proofs.YtnbcbipigiopbaaGreatDoor
