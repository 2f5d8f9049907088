/-
  What a header tells, the program's way and the reference's: the same. No conditions but the text's length.
-/
import Derived.Test.YtiiaoagobjgkiaaGreatDoorHrP1
import Derived.Test.YtiiaoagobjgkiaaGreatDoorHrP2
import Derived.Test.YtiiaoagobjgkiaaGreatDoorHrP3
import Derived.Test.YtiiaoagobjgkiaaGreatDoorHrR1
import Derived.Test.YtiiaoagobjgkiaaGreatDoorHrR2
import Derived.Test.YtiiaoagobjgkiaaGreatDoorHrR3
namespace Go.Proofs.YtiiaoagobjgkiaaGreatDoor
open Go.RowKit Go.WideShapes Go.PlainAid

/-- Both ways of a header, at a text. -/
def HeadBoth (s : ByteArray) : Prop := ∃ (X : Nat → ByteArray) (kd : Int) (N : Nat → Int) (d k : Int),
  (∀ w, HasMax w → Calls Tryz.prog 78 #[.string s] w fun e w' => e = .returned (.tuple #[.agg (rowRaw X kd N), .int .i64 d, errOf k]) ∧ Ext w w') ∧
  (∀ w, HasMax w → Calls Tryz.prog 37 #[.string s] w fun e w' => e = .returned (.tuple #[.agg (rowRaw X kd N), .int .i64 d, .int .i64 k]) ∧ Ext w w')
set_option maxHeartbeats 1600000 in
set_option maxRecDepth 100000 in
theorem refHR_size (s : ByteArray) (_hs : s.size ≤ 100000) (h : s.size ≠ 512) (w : World) : Calls Tryz.prog 37 #[.string s] w fun e w' => e = .returned (badQ 3) ∧ Ext w w' := by
  have q : ((s.size : Int) != 512) = true := by simp; omega
  clear h
  go_enter Tryz.func37, Tryz.ntmps37
  go_wp2_with fail
  go_returns
  exact ⟨rfl, (by show Below _ _ _; repeat' (first | (with_reducible exact Below.refl _ _) | (with_reducible assumption) | (with_reducible refine belowDrewN ?_ _) | (with_reducible refine Below.alloc ?_ ?_ _) | (with_reducible refine Below.drew ?_) | (with_reducible refine Below.setCell ?_ ?_ _) | go_size))⟩
set_option maxHeartbeats 1600000 in
set_option maxRecDepth 100000 in
theorem refHR_sum (s : ByteArray) (h : s.size = 512) (hb : headB s = false) (w : World) : Calls Tryz.prog 37 #[.string s] w fun e w' => e = .returned (badQ 15) ∧ Ext w w' := by
  have C := fun w => headRight_any s w (by omega)
  rw [hb] at C
  have CB := Lib.hid C
  clear C hb
  have q : ((s.size : Int) != 512) = false := by simp; omega
  clear h
  go_enter Tryz.func37, Tryz.ntmps37
  go_wp2_with fail
  refine (CB.out _).mono ?_; rintro e w1 ⟨rfl, hx1⟩
  have HR1 : Hid (w1.heap[w.heap.size + 1]? = some (.cells (rowRaw noX 0 noN) 75 (0, 0))) := Lib.hid ((hx1.block _ (by rw [World.size_alloc, World.size_alloc]; omega)).trans (two_at w _ _).2)
  have hxw : Ext w w1 := (((Ext.refl w).alloc _).alloc _).trans hx1
  go_wp2_with (refine wpList_store_row rfl 75 (.tmp 2) (.tmp 17) rfl (w.heap.size + 1) (rowRaw noX 0 noN) rfl rfl 75 _ HR1.out qInfo rfl (rowRaw_one _ _ _) ?_)
  exact bodyPost_ret (v := badQ 15) (results_rawQ (by rfl) (by rfl) (by rfl) rfl (setRow_heap w1 (w.heap.size + 1) _ _ _ _ HR1.out)) rfl ⟨rfl, below_setRow hxw (Nat.le_succ _) _⟩
theorem badR_eq (k : Int) : badR k = .tuple #[.agg (rowRaw noX 0 noN), .int .i64 0, errOf k] := rfl
theorem head_both (s : ByteArray) (hs : s.size ≤ 100000) : HeadBoth s := by
  by_cases h : s.size = 512
  · cases hb : headB s with
    | false => exact ⟨noX, 0, noN, 0, 15, fun w _ => headRead_sum s h hb w, fun w _ => refHR_sum s h hb w⟩
    | true =>
      have CN : ∀ k, k < 7 → ∀ w, Calls Tryz.prog 118 #[.string (s.extract (nAt k) (nEnd k))] w fun e w' => e = .returned (.tuple #[.int .i64 (numVal (hN s k)), errOf (numErr (hN s k))]) ∧ Ext w w' :=
        fun k _ w => numRead_any (hN s k) w (by unfold hN; rw [ByteArray.size_extract]; omega)
      have CT : ∀ k, k < 5 → ∀ w, HasMax w → Calls Tryz.prog 121 #[.string (s.extract (tAt k) (tEnd k)), .string ⟨#[0]⟩] w fun e w' => ∃ (b : ByteArray) (c : Bool), e = .returned (.tuple #[.string (hT s k), .string b, .bool c]) ∧ Ext w w' :=
        fun k _ w hm => cut_any _ (by rw [ByteArray.size_extract]; omega) w hm
      obtain ⟨NE, hNE⟩ : ∃ NE : Nat → Int, NE = fun k => numErr (hN s k) := ⟨_, rfl⟩
      obtain ⟨NV, hNV⟩ : ∃ NV : Nat → Int, NV = fun k => numVal (hN s k) := ⟨_, rfl⟩
      obtain ⟨T, hT'⟩ : ∃ T : Nat → ByteArray, T = hT s := ⟨_, rfl⟩
      have CN' : ∀ k, k < 7 → ∀ w, Calls Tryz.prog 118 #[.string (s.extract (nAt k) (nEnd k))] w fun e w' => e = .returned (.tuple #[.int .i64 (NV k), errOf (NE k)]) ∧ Ext w w' := by rw [hNE, hNV]; exact CN
      have CT' : ∀ k, k < 5 → ∀ w, HasMax w → Calls Tryz.prog 121 #[.string (s.extract (tAt k) (tEnd k)), .string ⟨#[0]⟩] w fun e w' => ∃ (b : ByteArray) (c : Bool), e = .returned (.tuple #[.string (T k), .string b, .bool c]) ∧ Ext w w' := by rw [hT']; exact CT
      clear CN CT
      rcases dialV_cases s with ⟨_, _, hd⟩ | ⟨_, _, hd⟩ | ⟨_, _, hd⟩
      · by_cases ha : ∀ k, k < 7 → NE k = 0
        · refine ⟨finT T 2, headK s, upN NV 7, 2, 0, fun w hm => headRead_2 s h hb hd _ rfl NV NE T CN' CT' _ (fun k hk hn => absurd (ha k hk) hn) (fun _ => rfl) w hm, fun w hm => refHR_2 s h hb hd _ rfl NV NE T hNV hNE hT' _ (fun hf => ?_) (fun _ => rfl) w hm⟩
          simp [ha 0 (by omega), ha 1 (by omega), ha 2 (by omega), ha 3 (by omega), ha 4 (by omega), ha 5 (by omega), ha 6 (by omega)] at hf
        · refine ⟨noX, 0, noN, 0, 2, fun w hm => headRead_2 s h hb hd _ rfl NV NE T CN' CT' _ (fun _ _ _ => rfl) (fun hf => absurd hf ha) w hm, fun w hm => refHR_2 s h hb hd _ rfl NV NE T hNV hNE hT' _ (fun _ => rfl) (fun hf => ?_) w hm⟩
          exfalso
          refine ha fun k hk => ?_
          simp at hf
          rcases (show k = 0 ∨ k = 1 ∨ k = 2 ∨ k = 3 ∨ k = 4 ∨ k = 5 ∨ k = 6 by omega) with rfl | rfl | rfl | rfl | rfl | rfl | rfl <;> simp [hf]
      · by_cases ha : ∀ k, k < 7 → NE k = 0
        · refine ⟨finT T 3, headK s, upN NV 7, 3, 0, fun w hm => headRead_3 s h hb hd _ rfl NV NE T CN' CT' _ (fun k hk hn => absurd (ha k hk) hn) (fun _ => rfl) w hm, fun w hm => refHR_3 s h hb hd _ rfl NV NE T hNV hNE hT' _ (fun hf => ?_) (fun _ => rfl) w hm⟩
          simp [ha 0 (by omega), ha 1 (by omega), ha 2 (by omega), ha 3 (by omega), ha 4 (by omega), ha 5 (by omega), ha 6 (by omega)] at hf
        · refine ⟨noX, 0, noN, 0, 2, fun w hm => headRead_3 s h hb hd _ rfl NV NE T CN' CT' _ (fun _ _ _ => rfl) (fun hf => absurd hf ha) w hm, fun w hm => refHR_3 s h hb hd _ rfl NV NE T hNV hNE hT' _ (fun _ => rfl) (fun hf => ?_) w hm⟩
          exfalso
          refine ha fun k hk => ?_
          simp at hf
          rcases (show k = 0 ∨ k = 1 ∨ k = 2 ∨ k = 3 ∨ k = 4 ∨ k = 5 ∨ k = 6 by omega) with rfl | rfl | rfl | rfl | rfl | rfl | rfl <;> simp [hf]
      · by_cases ha : ∀ k, k < 5 → NE k = 0
        · refine ⟨finT T 1, headK s, upN NV 5, 1, 0, fun w hm => headRead_1 s h hb hd _ rfl NV NE T CN' CT' _ (fun k hk hn => absurd (ha k hk) hn) (fun _ => rfl) w hm, fun w hm => refHR_1 s h hb hd _ rfl NV NE T hNV hNE hT' _ (fun hf => ?_) (fun _ => rfl) w hm⟩
          simp [ha 0 (by omega), ha 1 (by omega), ha 2 (by omega), ha 3 (by omega), ha 4 (by omega)] at hf
        · refine ⟨noX, 0, noN, 0, 2, fun w hm => headRead_1 s h hb hd _ rfl NV NE T CN' CT' _ (fun _ _ _ => rfl) (fun hf => absurd hf ha) w hm, fun w hm => refHR_1 s h hb hd _ rfl NV NE T hNV hNE hT' _ (fun _ => rfl) (fun hf => ?_) w hm⟩
          exfalso
          refine ha fun k hk => ?_
          simp at hf
          rcases (show k = 0 ∨ k = 1 ∨ k = 2 ∨ k = 3 ∨ k = 4 by omega) with rfl | rfl | rfl | rfl | rfl <;> simp [hf]
  · exact ⟨noX, 0, noN, 0, 3, fun w _ => headRead_size s hs h w, fun w _ => refHR_size s hs h w⟩
end Go.Proofs.YtiiaoagobjgkiaaGreatDoor
