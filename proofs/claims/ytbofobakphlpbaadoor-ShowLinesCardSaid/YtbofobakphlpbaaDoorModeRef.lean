/-
  The reference's ModeText.
-/
import Derived.Test.YtbofobakphlpbaaDoorMode
import Derived.Test.YtbofobakphlpbaaDoorShelf
namespace Go.Proofs.YtbofobakphlpbaaDoor
open Go.RowKit Go.PlainAid

set_option maxRecDepth 100000 in
theorem bit_any (m : Int) (k : Nat) (hk : k ≤ 11) (w : World) : Calls Tryd.prog 61 #[.int .i64 m, .int .i64 (k : Int)] w fun e w' => e = .returned (.bool (bitB m k)) ∧ w' = w := by
  have e := Lib.hid (bitB_u64 m k hk)
  have i0 : (0 : Int) ≤ (k : Int) := by omega
  have i1 : (k : Int) ≤ 64 := by omega
  have hm0 : 0 ≤ m % 18446744073709551616 := by omega
  have hu : IntKind.u64.wrap m = m % 18446744073709551616 := IntKind.wrap_u64 m
  obtain ⟨u, hu2⟩ : ∃ u, u = m % 18446744073709551616 := ⟨_, rfl⟩
  rw [← hu2] at hu hm0
  have Hu := Lib.hid hu2
  clear hu2
  have hd0 : 0 ≤ u / 2 ^ k := Int.ediv_nonneg hm0 (Int.pow_nonneg (by decide))
  go_enter Tryd.func61, Tryd.ntmps61
  go_wp2_with fail
  go_ret
  exact ⟨ret_bool (by rw [← e.out, ← Hu.out]), rfl⟩

theorem modeL_take (m : Int) (j : Nat) (h : j < 9) : (modeL m).take (j + 1) = (modeL m).take j ++ [if j % 3 = 2 then lastC m (j / 3) else plainC m j] := by
  have e : (modeL m)[j]? = some (if j % 3 = 2 then lastC m (j / 3) else plainC m j) := by
    unfold modeL
    rw [row2_at _ _ _ h]
    congr 1
    by_cases e : j % 3 = 2
    · rw [if_pos ⟨e, by omega⟩, if_pos e]
    · rw [if_neg (fun h => e h.1), if_neg e]
  obtain ⟨hl, he⟩ := List.getElem?_eq_some_iff.1 e
  rw [List.take_succ_eq_append_getElem hl, he]

theorem up1 (x y : UInt8) (h : x.toNat < 128) (e : Lib.toUpperA [x] = [y]) (w : World) : Calls Tryd.prog 62 #[.string ⟨#[x]⟩] w fun e w' => e = .returned (.string ⟨#[y]⟩) ∧ Ext w w' := by
  have := Tryd.strings_ToUpper_ascii ⟨#[x]⟩ w (by show 1 ≤ _; omega) (fun j b hb => by
    cases j with
    | zero => simp at hb; subst hb; exact h
    | succ j => simp at hb)
  have e2 : Lib.toUpperA (⟨#[x]⟩ : ByteArray).data.toList = [y] := e
  rw [e2] at this
  exact this
theorem snoc_str (p : ByteArray) (l : List UInt8) (x : UInt8) (h : (⟨l.toArray⟩ : ByteArray) = p) : p ++ ⟨#[x]⟩ = ⟨(l ++ [x]).toArray⟩ := by
  subst h
  apply ByteArray.ext
  simp
/-- Between two rounds. -/
def MrRel (m : Int) (w : World) (s k : Value) (wr : World) : Prop := ∃ j : Nat, j ≤ 9 ∧ s = .string ⟨((modeL m).take j).toArray⟩ ∧ k = .int .i64 (8 - (j : Int)) ∧ Ext w wr

set_option maxHeartbeats 4000000 in
set_option maxRecDepth 100000 in
theorem refModeText_any (m : Int) (w : World) : Calls Tryd.prog 41 #[.int .i64 m] w fun e w' => e = .returned (.string ⟨(modeL m).toArray⟩) ∧ Ext w w' := by
  go_enter Tryd.func41, Tryd.ntmps41
  go_wp2_with fail
  go_loopw [3, 4] (fun s k wr => MrRel m w s k wr) (fun _ k _ => (intOf k + 1).toNat)
  case atStart => exact ⟨0, by omega, rfl, rfl, Ext.refl _⟩
  case round =>
    obtain ⟨j, hj, rfl, rfl, hE⟩ := hrel
    by_cases hlt : j < 9
    · have htk := Lib.hid (modeL_take m j hlt)
      have hsz : (⟨((modeL m).take j).toArray⟩ : ByteArray).size ≤ 9 := by show ((modeL m).take j).toArray.size ≤ 9; simp; omega
      rcases (show j = 0 ∨ j = 1 ∨ j = 2 ∨ j = 3 ∨ j = 4 ∨ j = 5 ∨ j = 6 ∨ j = 7 ∨ j = 8 by omega) with rfl | rfl | rfl | rfl | rfl | rfl | rfl | rfl | rfl
      · rw [show (8 : Int) - ((0 : Nat) : Int) = 8 from rfl]
        have htk := Lib.hid (modeL_take m 0 (by omega))
        generalize hp : (⟨((modeL m).take 0).toArray⟩ : ByteArray) = p at hsz ⊢
        have Hp := Lib.hid hp
        clear hp
        cases ho : bitB m 8 with
        | true =>
          have C1 : Hid (∀ w, Calls Tryd.prog 61 #[.int .i64 m, .int .i64 8] w fun e w' => e = .returned (.bool true) ∧ w' = w) := Lib.hid (fun w => by have := bit_any m 8 (by omega) w; rw [ho] at this; exact this)
          have hfin : Hid (p ++ ⟨#[114]⟩ = ⟨((modeL m).take (0 + 1)).toArray⟩) := Lib.hid (by rw [htk.out, if_neg (by decide)]; unfold plainC; rw [show 8 - 0 = 8 from rfl, ho]; exact snoc_str _ _ 114 Hp.out)
          clear ho
          go_wp2_with (first | ((with_reducible refine (C1.out _).mono ?_); rintro e w' ⟨rfl, hw⟩; subst w'))
          go_roundw
          case rel => exact ⟨1, by omega, congrArg Value.string hfin.out, rfl, (hE.trans (by show Below _ _ _; repeat' (first | (with_reducible exact Below.refl _ _) | (with_reducible assumption) | (with_reducible refine belowDrewN ?_ _) | (with_reducible refine Below.alloc ?_ ?_ _) | (with_reducible refine Below.drew ?_) | (with_reducible refine Below.setCell ?_ ?_ _) | go_size)))⟩
          case measure => simp [intOf]
        | false =>
          have C1 : Hid (∀ w, Calls Tryd.prog 61 #[.int .i64 m, .int .i64 8] w fun e w' => e = .returned (.bool false) ∧ w' = w) := Lib.hid (fun w => by have := bit_any m 8 (by omega) w; rw [ho] at this; exact this)
          have hfin : Hid (p ++ ⟨#[45]⟩ = ⟨((modeL m).take (0 + 1)).toArray⟩) := Lib.hid (by rw [htk.out, if_neg (by decide)]; unfold plainC; rw [show 8 - 0 = 8 from rfl, ho]; exact snoc_str _ _ 45 Hp.out)
          clear ho
          go_wp2_with (first | ((with_reducible refine (C1.out _).mono ?_); rintro e w' ⟨rfl, hw⟩; subst w'))
          go_roundw
          case rel => exact ⟨1, by omega, congrArg Value.string hfin.out, rfl, (hE.trans (by show Below _ _ _; repeat' (first | (with_reducible exact Below.refl _ _) | (with_reducible assumption) | (with_reducible refine belowDrewN ?_ _) | (with_reducible refine Below.alloc ?_ ?_ _) | (with_reducible refine Below.drew ?_) | (with_reducible refine Below.setCell ?_ ?_ _) | go_size)))⟩
          case measure => simp [intOf]
      · rw [show (8 : Int) - ((1 : Nat) : Int) = 7 from rfl]
        have htk := Lib.hid (modeL_take m 1 (by omega))
        generalize hp : (⟨((modeL m).take 1).toArray⟩ : ByteArray) = p at hsz ⊢
        have Hp := Lib.hid hp
        clear hp
        cases ho : bitB m 7 with
        | true =>
          have C1 : Hid (∀ w, Calls Tryd.prog 61 #[.int .i64 m, .int .i64 7] w fun e w' => e = .returned (.bool true) ∧ w' = w) := Lib.hid (fun w => by have := bit_any m 7 (by omega) w; rw [ho] at this; exact this)
          have hfin : Hid (p ++ ⟨#[119]⟩ = ⟨((modeL m).take (1 + 1)).toArray⟩) := Lib.hid (by rw [htk.out, if_neg (by decide)]; unfold plainC; rw [show 8 - 1 = 7 from rfl, ho]; exact snoc_str _ _ 119 Hp.out)
          clear ho
          go_wp2_with (first | ((with_reducible refine (C1.out _).mono ?_); rintro e w' ⟨rfl, hw⟩; subst w'))
          go_roundw
          case rel => exact ⟨2, by omega, congrArg Value.string hfin.out, rfl, (hE.trans (by show Below _ _ _; repeat' (first | (with_reducible exact Below.refl _ _) | (with_reducible assumption) | (with_reducible refine belowDrewN ?_ _) | (with_reducible refine Below.alloc ?_ ?_ _) | (with_reducible refine Below.drew ?_) | (with_reducible refine Below.setCell ?_ ?_ _) | go_size)))⟩
          case measure => simp [intOf]
        | false =>
          have C1 : Hid (∀ w, Calls Tryd.prog 61 #[.int .i64 m, .int .i64 7] w fun e w' => e = .returned (.bool false) ∧ w' = w) := Lib.hid (fun w => by have := bit_any m 7 (by omega) w; rw [ho] at this; exact this)
          have hfin : Hid (p ++ ⟨#[45]⟩ = ⟨((modeL m).take (1 + 1)).toArray⟩) := Lib.hid (by rw [htk.out, if_neg (by decide)]; unfold plainC; rw [show 8 - 1 = 7 from rfl, ho]; exact snoc_str _ _ 45 Hp.out)
          clear ho
          go_wp2_with (first | ((with_reducible refine (C1.out _).mono ?_); rintro e w' ⟨rfl, hw⟩; subst w'))
          go_roundw
          case rel => exact ⟨2, by omega, congrArg Value.string hfin.out, rfl, (hE.trans (by show Below _ _ _; repeat' (first | (with_reducible exact Below.refl _ _) | (with_reducible assumption) | (with_reducible refine belowDrewN ?_ _) | (with_reducible refine Below.alloc ?_ ?_ _) | (with_reducible refine Below.drew ?_) | (with_reducible refine Below.setCell ?_ ?_ _) | go_size)))⟩
          case measure => simp [intOf]
      · rw [show (8 : Int) - ((2 : Nat) : Int) = 6 from rfl]
        have htk := Lib.hid (modeL_take m 2 (by omega))
        generalize hp : (⟨((modeL m).take 2).toArray⟩ : ByteArray) = p at hsz ⊢
        have Hp := Lib.hid hp
        clear hp
        cases ho : bitB m 6 with
        | true =>
          cases hs : bitB m 11 with
          | true =>
            have C1 : Hid (∀ w, Calls Tryd.prog 61 #[.int .i64 m, .int .i64 6] w fun e w' => e = .returned (.bool true) ∧ w' = w) := Lib.hid (fun w => by have := bit_any m 6 (by omega) w; rw [ho] at this; exact this)
            have C2 : Hid (∀ w, Calls Tryd.prog 61 #[.int .i64 m, .int .i64 11] w fun e w' => e = .returned (.bool true) ∧ w' = w) := Lib.hid (fun w => by have := bit_any m 11 (by omega) w; rw [hs] at this; exact this)
            have hfin : Hid (p ++ ⟨#[115]⟩ = ⟨((modeL m).take (2 + 1)).toArray⟩) := Lib.hid (by rw [htk.out, if_pos rfl]; unfold lastC; rw [show 11 - 2 / 3 = 11 from rfl, hs, show 6 - 3 * (2 / 3) = 6 from rfl, ho]; exact snoc_str _ _ 115 Hp.out)
            clear ho hs
            go_wp2_with (first | ((with_reducible refine (C1.out _).mono ?_); rintro e w' ⟨rfl, hw⟩; subst w') | ((with_reducible refine (C2.out _).mono ?_); rintro e w' ⟨rfl, hw⟩; subst w'))
            go_roundw
            case rel => exact ⟨3, by omega, congrArg Value.string hfin.out, rfl, (hE.trans (by show Below _ _ _; repeat' (first | (with_reducible exact Below.refl _ _) | (with_reducible assumption) | (with_reducible refine belowDrewN ?_ _) | (with_reducible refine Below.alloc ?_ ?_ _) | (with_reducible refine Below.drew ?_) | (with_reducible refine Below.setCell ?_ ?_ _) | go_size)))⟩
            case measure => simp [intOf]
          | false =>
            have C1 : Hid (∀ w, Calls Tryd.prog 61 #[.int .i64 m, .int .i64 6] w fun e w' => e = .returned (.bool true) ∧ w' = w) := Lib.hid (fun w => by have := bit_any m 6 (by omega) w; rw [ho] at this; exact this)
            have C2 : Hid (∀ w, Calls Tryd.prog 61 #[.int .i64 m, .int .i64 11] w fun e w' => e = .returned (.bool false) ∧ w' = w) := Lib.hid (fun w => by have := bit_any m 11 (by omega) w; rw [hs] at this; exact this)
            have hfin : Hid (p ++ ⟨#[120]⟩ = ⟨((modeL m).take (2 + 1)).toArray⟩) := Lib.hid (by rw [htk.out, if_pos rfl]; unfold lastC; rw [show 11 - 2 / 3 = 11 from rfl, hs]; unfold plainC; rw [show 8 - (3 * (2 / 3) + 2) = 6 from rfl, ho]; exact snoc_str _ _ 120 Hp.out)
            clear ho hs
            go_wp2_with (first | ((with_reducible refine (C1.out _).mono ?_); rintro e w' ⟨rfl, hw⟩; subst w') | ((with_reducible refine (C2.out _).mono ?_); rintro e w' ⟨rfl, hw⟩; subst w'))
            go_roundw
            case rel => exact ⟨3, by omega, congrArg Value.string hfin.out, rfl, (hE.trans (by show Below _ _ _; repeat' (first | (with_reducible exact Below.refl _ _) | (with_reducible assumption) | (with_reducible refine belowDrewN ?_ _) | (with_reducible refine Below.alloc ?_ ?_ _) | (with_reducible refine Below.drew ?_) | (with_reducible refine Below.setCell ?_ ?_ _) | go_size)))⟩
            case measure => simp [intOf]
        | false =>
          cases hs : bitB m 11 with
          | true =>
            have C1 : Hid (∀ w, Calls Tryd.prog 61 #[.int .i64 m, .int .i64 6] w fun e w' => e = .returned (.bool false) ∧ w' = w) := Lib.hid (fun w => by have := bit_any m 6 (by omega) w; rw [ho] at this; exact this)
            have C2 : Hid (∀ w, Calls Tryd.prog 61 #[.int .i64 m, .int .i64 11] w fun e w' => e = .returned (.bool true) ∧ w' = w) := Lib.hid (fun w => by have := bit_any m 11 (by omega) w; rw [hs] at this; exact this)
            have hfin : Hid (p ++ ⟨#[83]⟩ = ⟨((modeL m).take (2 + 1)).toArray⟩) := Lib.hid (by rw [htk.out, if_pos rfl]; unfold lastC; rw [show 11 - 2 / 3 = 11 from rfl, hs, show 6 - 3 * (2 / 3) = 6 from rfl, ho]; exact snoc_str _ _ 83 Hp.out)
            clear ho hs
            go_wp2_with (first | ((with_reducible refine (C1.out _).mono ?_); rintro e w' ⟨rfl, hw⟩; subst w') | ((with_reducible refine (C2.out _).mono ?_); rintro e w' ⟨rfl, hw⟩; subst w') | ((with_reducible refine (up1 115 83 (by decide) (by decide) _).mono ?_); rintro e w2 ⟨rfl, hx2⟩))
            go_roundw
            case rel => exact ⟨3, by omega, congrArg Value.string hfin.out, rfl, (hE.trans (Ext.trans (by show Below _ _ _; repeat' (first | (with_reducible exact Below.refl _ _) | (with_reducible assumption) | (with_reducible refine belowDrewN ?_ _) | (with_reducible refine Below.alloc ?_ ?_ _) | (with_reducible refine Below.drew ?_) | (with_reducible refine Below.setCell ?_ ?_ _) | go_size)) (Ext.trans hx2 (by show Below _ _ _; repeat' (first | (with_reducible exact Below.refl _ _) | (with_reducible assumption) | (with_reducible refine belowDrewN ?_ _) | (with_reducible refine Below.alloc ?_ ?_ _) | (with_reducible refine Below.drew ?_) | (with_reducible refine Below.setCell ?_ ?_ _) | go_size)))))⟩
            case measure => simp [intOf]
          | false =>
            have C1 : Hid (∀ w, Calls Tryd.prog 61 #[.int .i64 m, .int .i64 6] w fun e w' => e = .returned (.bool false) ∧ w' = w) := Lib.hid (fun w => by have := bit_any m 6 (by omega) w; rw [ho] at this; exact this)
            have C2 : Hid (∀ w, Calls Tryd.prog 61 #[.int .i64 m, .int .i64 11] w fun e w' => e = .returned (.bool false) ∧ w' = w) := Lib.hid (fun w => by have := bit_any m 11 (by omega) w; rw [hs] at this; exact this)
            have hfin : Hid (p ++ ⟨#[45]⟩ = ⟨((modeL m).take (2 + 1)).toArray⟩) := Lib.hid (by rw [htk.out, if_pos rfl]; unfold lastC; rw [show 11 - 2 / 3 = 11 from rfl, hs]; unfold plainC; rw [show 8 - (3 * (2 / 3) + 2) = 6 from rfl, ho]; exact snoc_str _ _ 45 Hp.out)
            clear ho hs
            go_wp2_with (first | ((with_reducible refine (C1.out _).mono ?_); rintro e w' ⟨rfl, hw⟩; subst w') | ((with_reducible refine (C2.out _).mono ?_); rintro e w' ⟨rfl, hw⟩; subst w'))
            go_roundw
            case rel => exact ⟨3, by omega, congrArg Value.string hfin.out, rfl, (hE.trans (by show Below _ _ _; repeat' (first | (with_reducible exact Below.refl _ _) | (with_reducible assumption) | (with_reducible refine belowDrewN ?_ _) | (with_reducible refine Below.alloc ?_ ?_ _) | (with_reducible refine Below.drew ?_) | (with_reducible refine Below.setCell ?_ ?_ _) | go_size)))⟩
            case measure => simp [intOf]
      · rw [show (8 : Int) - ((3 : Nat) : Int) = 5 from rfl]
        have htk := Lib.hid (modeL_take m 3 (by omega))
        generalize hp : (⟨((modeL m).take 3).toArray⟩ : ByteArray) = p at hsz ⊢
        have Hp := Lib.hid hp
        clear hp
        cases ho : bitB m 5 with
        | true =>
          have C1 : Hid (∀ w, Calls Tryd.prog 61 #[.int .i64 m, .int .i64 5] w fun e w' => e = .returned (.bool true) ∧ w' = w) := Lib.hid (fun w => by have := bit_any m 5 (by omega) w; rw [ho] at this; exact this)
          have hfin : Hid (p ++ ⟨#[114]⟩ = ⟨((modeL m).take (3 + 1)).toArray⟩) := Lib.hid (by rw [htk.out, if_neg (by decide)]; unfold plainC; rw [show 8 - 3 = 5 from rfl, ho]; exact snoc_str _ _ 114 Hp.out)
          clear ho
          go_wp2_with (first | ((with_reducible refine (C1.out _).mono ?_); rintro e w' ⟨rfl, hw⟩; subst w'))
          go_roundw
          case rel => exact ⟨4, by omega, congrArg Value.string hfin.out, rfl, (hE.trans (by show Below _ _ _; repeat' (first | (with_reducible exact Below.refl _ _) | (with_reducible assumption) | (with_reducible refine belowDrewN ?_ _) | (with_reducible refine Below.alloc ?_ ?_ _) | (with_reducible refine Below.drew ?_) | (with_reducible refine Below.setCell ?_ ?_ _) | go_size)))⟩
          case measure => simp [intOf]
        | false =>
          have C1 : Hid (∀ w, Calls Tryd.prog 61 #[.int .i64 m, .int .i64 5] w fun e w' => e = .returned (.bool false) ∧ w' = w) := Lib.hid (fun w => by have := bit_any m 5 (by omega) w; rw [ho] at this; exact this)
          have hfin : Hid (p ++ ⟨#[45]⟩ = ⟨((modeL m).take (3 + 1)).toArray⟩) := Lib.hid (by rw [htk.out, if_neg (by decide)]; unfold plainC; rw [show 8 - 3 = 5 from rfl, ho]; exact snoc_str _ _ 45 Hp.out)
          clear ho
          go_wp2_with (first | ((with_reducible refine (C1.out _).mono ?_); rintro e w' ⟨rfl, hw⟩; subst w'))
          go_roundw
          case rel => exact ⟨4, by omega, congrArg Value.string hfin.out, rfl, (hE.trans (by show Below _ _ _; repeat' (first | (with_reducible exact Below.refl _ _) | (with_reducible assumption) | (with_reducible refine belowDrewN ?_ _) | (with_reducible refine Below.alloc ?_ ?_ _) | (with_reducible refine Below.drew ?_) | (with_reducible refine Below.setCell ?_ ?_ _) | go_size)))⟩
          case measure => simp [intOf]
      · rw [show (8 : Int) - ((4 : Nat) : Int) = 4 from rfl]
        have htk := Lib.hid (modeL_take m 4 (by omega))
        generalize hp : (⟨((modeL m).take 4).toArray⟩ : ByteArray) = p at hsz ⊢
        have Hp := Lib.hid hp
        clear hp
        cases ho : bitB m 4 with
        | true =>
          have C1 : Hid (∀ w, Calls Tryd.prog 61 #[.int .i64 m, .int .i64 4] w fun e w' => e = .returned (.bool true) ∧ w' = w) := Lib.hid (fun w => by have := bit_any m 4 (by omega) w; rw [ho] at this; exact this)
          have hfin : Hid (p ++ ⟨#[119]⟩ = ⟨((modeL m).take (4 + 1)).toArray⟩) := Lib.hid (by rw [htk.out, if_neg (by decide)]; unfold plainC; rw [show 8 - 4 = 4 from rfl, ho]; exact snoc_str _ _ 119 Hp.out)
          clear ho
          go_wp2_with (first | ((with_reducible refine (C1.out _).mono ?_); rintro e w' ⟨rfl, hw⟩; subst w'))
          go_roundw
          case rel => exact ⟨5, by omega, congrArg Value.string hfin.out, rfl, (hE.trans (by show Below _ _ _; repeat' (first | (with_reducible exact Below.refl _ _) | (with_reducible assumption) | (with_reducible refine belowDrewN ?_ _) | (with_reducible refine Below.alloc ?_ ?_ _) | (with_reducible refine Below.drew ?_) | (with_reducible refine Below.setCell ?_ ?_ _) | go_size)))⟩
          case measure => simp [intOf]
        | false =>
          have C1 : Hid (∀ w, Calls Tryd.prog 61 #[.int .i64 m, .int .i64 4] w fun e w' => e = .returned (.bool false) ∧ w' = w) := Lib.hid (fun w => by have := bit_any m 4 (by omega) w; rw [ho] at this; exact this)
          have hfin : Hid (p ++ ⟨#[45]⟩ = ⟨((modeL m).take (4 + 1)).toArray⟩) := Lib.hid (by rw [htk.out, if_neg (by decide)]; unfold plainC; rw [show 8 - 4 = 4 from rfl, ho]; exact snoc_str _ _ 45 Hp.out)
          clear ho
          go_wp2_with (first | ((with_reducible refine (C1.out _).mono ?_); rintro e w' ⟨rfl, hw⟩; subst w'))
          go_roundw
          case rel => exact ⟨5, by omega, congrArg Value.string hfin.out, rfl, (hE.trans (by show Below _ _ _; repeat' (first | (with_reducible exact Below.refl _ _) | (with_reducible assumption) | (with_reducible refine belowDrewN ?_ _) | (with_reducible refine Below.alloc ?_ ?_ _) | (with_reducible refine Below.drew ?_) | (with_reducible refine Below.setCell ?_ ?_ _) | go_size)))⟩
          case measure => simp [intOf]
      · rw [show (8 : Int) - ((5 : Nat) : Int) = 3 from rfl]
        have htk := Lib.hid (modeL_take m 5 (by omega))
        generalize hp : (⟨((modeL m).take 5).toArray⟩ : ByteArray) = p at hsz ⊢
        have Hp := Lib.hid hp
        clear hp
        cases ho : bitB m 3 with
        | true =>
          cases hs : bitB m 10 with
          | true =>
            have C1 : Hid (∀ w, Calls Tryd.prog 61 #[.int .i64 m, .int .i64 3] w fun e w' => e = .returned (.bool true) ∧ w' = w) := Lib.hid (fun w => by have := bit_any m 3 (by omega) w; rw [ho] at this; exact this)
            have C2 : Hid (∀ w, Calls Tryd.prog 61 #[.int .i64 m, .int .i64 10] w fun e w' => e = .returned (.bool true) ∧ w' = w) := Lib.hid (fun w => by have := bit_any m 10 (by omega) w; rw [hs] at this; exact this)
            have hfin : Hid (p ++ ⟨#[115]⟩ = ⟨((modeL m).take (5 + 1)).toArray⟩) := Lib.hid (by rw [htk.out, if_pos rfl]; unfold lastC; rw [show 11 - 5 / 3 = 10 from rfl, hs, show 6 - 3 * (5 / 3) = 3 from rfl, ho]; exact snoc_str _ _ 115 Hp.out)
            clear ho hs
            go_wp2_with (first | ((with_reducible refine (C1.out _).mono ?_); rintro e w' ⟨rfl, hw⟩; subst w') | ((with_reducible refine (C2.out _).mono ?_); rintro e w' ⟨rfl, hw⟩; subst w'))
            go_roundw
            case rel => exact ⟨6, by omega, congrArg Value.string hfin.out, rfl, (hE.trans (by show Below _ _ _; repeat' (first | (with_reducible exact Below.refl _ _) | (with_reducible assumption) | (with_reducible refine belowDrewN ?_ _) | (with_reducible refine Below.alloc ?_ ?_ _) | (with_reducible refine Below.drew ?_) | (with_reducible refine Below.setCell ?_ ?_ _) | go_size)))⟩
            case measure => simp [intOf]
          | false =>
            have C1 : Hid (∀ w, Calls Tryd.prog 61 #[.int .i64 m, .int .i64 3] w fun e w' => e = .returned (.bool true) ∧ w' = w) := Lib.hid (fun w => by have := bit_any m 3 (by omega) w; rw [ho] at this; exact this)
            have C2 : Hid (∀ w, Calls Tryd.prog 61 #[.int .i64 m, .int .i64 10] w fun e w' => e = .returned (.bool false) ∧ w' = w) := Lib.hid (fun w => by have := bit_any m 10 (by omega) w; rw [hs] at this; exact this)
            have hfin : Hid (p ++ ⟨#[120]⟩ = ⟨((modeL m).take (5 + 1)).toArray⟩) := Lib.hid (by rw [htk.out, if_pos rfl]; unfold lastC; rw [show 11 - 5 / 3 = 10 from rfl, hs]; unfold plainC; rw [show 8 - (3 * (5 / 3) + 2) = 3 from rfl, ho]; exact snoc_str _ _ 120 Hp.out)
            clear ho hs
            go_wp2_with (first | ((with_reducible refine (C1.out _).mono ?_); rintro e w' ⟨rfl, hw⟩; subst w') | ((with_reducible refine (C2.out _).mono ?_); rintro e w' ⟨rfl, hw⟩; subst w'))
            go_roundw
            case rel => exact ⟨6, by omega, congrArg Value.string hfin.out, rfl, (hE.trans (by show Below _ _ _; repeat' (first | (with_reducible exact Below.refl _ _) | (with_reducible assumption) | (with_reducible refine belowDrewN ?_ _) | (with_reducible refine Below.alloc ?_ ?_ _) | (with_reducible refine Below.drew ?_) | (with_reducible refine Below.setCell ?_ ?_ _) | go_size)))⟩
            case measure => simp [intOf]
        | false =>
          cases hs : bitB m 10 with
          | true =>
            have C1 : Hid (∀ w, Calls Tryd.prog 61 #[.int .i64 m, .int .i64 3] w fun e w' => e = .returned (.bool false) ∧ w' = w) := Lib.hid (fun w => by have := bit_any m 3 (by omega) w; rw [ho] at this; exact this)
            have C2 : Hid (∀ w, Calls Tryd.prog 61 #[.int .i64 m, .int .i64 10] w fun e w' => e = .returned (.bool true) ∧ w' = w) := Lib.hid (fun w => by have := bit_any m 10 (by omega) w; rw [hs] at this; exact this)
            have hfin : Hid (p ++ ⟨#[83]⟩ = ⟨((modeL m).take (5 + 1)).toArray⟩) := Lib.hid (by rw [htk.out, if_pos rfl]; unfold lastC; rw [show 11 - 5 / 3 = 10 from rfl, hs, show 6 - 3 * (5 / 3) = 3 from rfl, ho]; exact snoc_str _ _ 83 Hp.out)
            clear ho hs
            go_wp2_with (first | ((with_reducible refine (C1.out _).mono ?_); rintro e w' ⟨rfl, hw⟩; subst w') | ((with_reducible refine (C2.out _).mono ?_); rintro e w' ⟨rfl, hw⟩; subst w') | ((with_reducible refine (up1 115 83 (by decide) (by decide) _).mono ?_); rintro e w2 ⟨rfl, hx2⟩))
            go_roundw
            case rel => exact ⟨6, by omega, congrArg Value.string hfin.out, rfl, (hE.trans (Ext.trans (by show Below _ _ _; repeat' (first | (with_reducible exact Below.refl _ _) | (with_reducible assumption) | (with_reducible refine belowDrewN ?_ _) | (with_reducible refine Below.alloc ?_ ?_ _) | (with_reducible refine Below.drew ?_) | (with_reducible refine Below.setCell ?_ ?_ _) | go_size)) (Ext.trans hx2 (by show Below _ _ _; repeat' (first | (with_reducible exact Below.refl _ _) | (with_reducible assumption) | (with_reducible refine belowDrewN ?_ _) | (with_reducible refine Below.alloc ?_ ?_ _) | (with_reducible refine Below.drew ?_) | (with_reducible refine Below.setCell ?_ ?_ _) | go_size)))))⟩
            case measure => simp [intOf]
          | false =>
            have C1 : Hid (∀ w, Calls Tryd.prog 61 #[.int .i64 m, .int .i64 3] w fun e w' => e = .returned (.bool false) ∧ w' = w) := Lib.hid (fun w => by have := bit_any m 3 (by omega) w; rw [ho] at this; exact this)
            have C2 : Hid (∀ w, Calls Tryd.prog 61 #[.int .i64 m, .int .i64 10] w fun e w' => e = .returned (.bool false) ∧ w' = w) := Lib.hid (fun w => by have := bit_any m 10 (by omega) w; rw [hs] at this; exact this)
            have hfin : Hid (p ++ ⟨#[45]⟩ = ⟨((modeL m).take (5 + 1)).toArray⟩) := Lib.hid (by rw [htk.out, if_pos rfl]; unfold lastC; rw [show 11 - 5 / 3 = 10 from rfl, hs]; unfold plainC; rw [show 8 - (3 * (5 / 3) + 2) = 3 from rfl, ho]; exact snoc_str _ _ 45 Hp.out)
            clear ho hs
            go_wp2_with (first | ((with_reducible refine (C1.out _).mono ?_); rintro e w' ⟨rfl, hw⟩; subst w') | ((with_reducible refine (C2.out _).mono ?_); rintro e w' ⟨rfl, hw⟩; subst w'))
            go_roundw
            case rel => exact ⟨6, by omega, congrArg Value.string hfin.out, rfl, (hE.trans (by show Below _ _ _; repeat' (first | (with_reducible exact Below.refl _ _) | (with_reducible assumption) | (with_reducible refine belowDrewN ?_ _) | (with_reducible refine Below.alloc ?_ ?_ _) | (with_reducible refine Below.drew ?_) | (with_reducible refine Below.setCell ?_ ?_ _) | go_size)))⟩
            case measure => simp [intOf]
      · rw [show (8 : Int) - ((6 : Nat) : Int) = 2 from rfl]
        have htk := Lib.hid (modeL_take m 6 (by omega))
        generalize hp : (⟨((modeL m).take 6).toArray⟩ : ByteArray) = p at hsz ⊢
        have Hp := Lib.hid hp
        clear hp
        cases ho : bitB m 2 with
        | true =>
          have C1 : Hid (∀ w, Calls Tryd.prog 61 #[.int .i64 m, .int .i64 2] w fun e w' => e = .returned (.bool true) ∧ w' = w) := Lib.hid (fun w => by have := bit_any m 2 (by omega) w; rw [ho] at this; exact this)
          have hfin : Hid (p ++ ⟨#[114]⟩ = ⟨((modeL m).take (6 + 1)).toArray⟩) := Lib.hid (by rw [htk.out, if_neg (by decide)]; unfold plainC; rw [show 8 - 6 = 2 from rfl, ho]; exact snoc_str _ _ 114 Hp.out)
          clear ho
          go_wp2_with (first | ((with_reducible refine (C1.out _).mono ?_); rintro e w' ⟨rfl, hw⟩; subst w'))
          go_roundw
          case rel => exact ⟨7, by omega, congrArg Value.string hfin.out, rfl, (hE.trans (by show Below _ _ _; repeat' (first | (with_reducible exact Below.refl _ _) | (with_reducible assumption) | (with_reducible refine belowDrewN ?_ _) | (with_reducible refine Below.alloc ?_ ?_ _) | (with_reducible refine Below.drew ?_) | (with_reducible refine Below.setCell ?_ ?_ _) | go_size)))⟩
          case measure => simp [intOf]
        | false =>
          have C1 : Hid (∀ w, Calls Tryd.prog 61 #[.int .i64 m, .int .i64 2] w fun e w' => e = .returned (.bool false) ∧ w' = w) := Lib.hid (fun w => by have := bit_any m 2 (by omega) w; rw [ho] at this; exact this)
          have hfin : Hid (p ++ ⟨#[45]⟩ = ⟨((modeL m).take (6 + 1)).toArray⟩) := Lib.hid (by rw [htk.out, if_neg (by decide)]; unfold plainC; rw [show 8 - 6 = 2 from rfl, ho]; exact snoc_str _ _ 45 Hp.out)
          clear ho
          go_wp2_with (first | ((with_reducible refine (C1.out _).mono ?_); rintro e w' ⟨rfl, hw⟩; subst w'))
          go_roundw
          case rel => exact ⟨7, by omega, congrArg Value.string hfin.out, rfl, (hE.trans (by show Below _ _ _; repeat' (first | (with_reducible exact Below.refl _ _) | (with_reducible assumption) | (with_reducible refine belowDrewN ?_ _) | (with_reducible refine Below.alloc ?_ ?_ _) | (with_reducible refine Below.drew ?_) | (with_reducible refine Below.setCell ?_ ?_ _) | go_size)))⟩
          case measure => simp [intOf]
      · rw [show (8 : Int) - ((7 : Nat) : Int) = 1 from rfl]
        have htk := Lib.hid (modeL_take m 7 (by omega))
        generalize hp : (⟨((modeL m).take 7).toArray⟩ : ByteArray) = p at hsz ⊢
        have Hp := Lib.hid hp
        clear hp
        cases ho : bitB m 1 with
        | true =>
          have C1 : Hid (∀ w, Calls Tryd.prog 61 #[.int .i64 m, .int .i64 1] w fun e w' => e = .returned (.bool true) ∧ w' = w) := Lib.hid (fun w => by have := bit_any m 1 (by omega) w; rw [ho] at this; exact this)
          have hfin : Hid (p ++ ⟨#[119]⟩ = ⟨((modeL m).take (7 + 1)).toArray⟩) := Lib.hid (by rw [htk.out, if_neg (by decide)]; unfold plainC; rw [show 8 - 7 = 1 from rfl, ho]; exact snoc_str _ _ 119 Hp.out)
          clear ho
          go_wp2_with (first | ((with_reducible refine (C1.out _).mono ?_); rintro e w' ⟨rfl, hw⟩; subst w'))
          go_roundw
          case rel => exact ⟨8, by omega, congrArg Value.string hfin.out, rfl, (hE.trans (by show Below _ _ _; repeat' (first | (with_reducible exact Below.refl _ _) | (with_reducible assumption) | (with_reducible refine belowDrewN ?_ _) | (with_reducible refine Below.alloc ?_ ?_ _) | (with_reducible refine Below.drew ?_) | (with_reducible refine Below.setCell ?_ ?_ _) | go_size)))⟩
          case measure => simp [intOf]
        | false =>
          have C1 : Hid (∀ w, Calls Tryd.prog 61 #[.int .i64 m, .int .i64 1] w fun e w' => e = .returned (.bool false) ∧ w' = w) := Lib.hid (fun w => by have := bit_any m 1 (by omega) w; rw [ho] at this; exact this)
          have hfin : Hid (p ++ ⟨#[45]⟩ = ⟨((modeL m).take (7 + 1)).toArray⟩) := Lib.hid (by rw [htk.out, if_neg (by decide)]; unfold plainC; rw [show 8 - 7 = 1 from rfl, ho]; exact snoc_str _ _ 45 Hp.out)
          clear ho
          go_wp2_with (first | ((with_reducible refine (C1.out _).mono ?_); rintro e w' ⟨rfl, hw⟩; subst w'))
          go_roundw
          case rel => exact ⟨8, by omega, congrArg Value.string hfin.out, rfl, (hE.trans (by show Below _ _ _; repeat' (first | (with_reducible exact Below.refl _ _) | (with_reducible assumption) | (with_reducible refine belowDrewN ?_ _) | (with_reducible refine Below.alloc ?_ ?_ _) | (with_reducible refine Below.drew ?_) | (with_reducible refine Below.setCell ?_ ?_ _) | go_size)))⟩
          case measure => simp [intOf]
      · rw [show (8 : Int) - ((8 : Nat) : Int) = 0 from rfl]
        have htk := Lib.hid (modeL_take m 8 (by omega))
        generalize hp : (⟨((modeL m).take 8).toArray⟩ : ByteArray) = p at hsz ⊢
        have Hp := Lib.hid hp
        clear hp
        cases ho : bitB m 0 with
        | true =>
          cases hs : bitB m 9 with
          | true =>
            have C1 : Hid (∀ w, Calls Tryd.prog 61 #[.int .i64 m, .int .i64 0] w fun e w' => e = .returned (.bool true) ∧ w' = w) := Lib.hid (fun w => by have := bit_any m 0 (by omega) w; rw [ho] at this; exact this)
            have C2 : Hid (∀ w, Calls Tryd.prog 61 #[.int .i64 m, .int .i64 9] w fun e w' => e = .returned (.bool true) ∧ w' = w) := Lib.hid (fun w => by have := bit_any m 9 (by omega) w; rw [hs] at this; exact this)
            have hfin : Hid (p ++ ⟨#[116]⟩ = ⟨((modeL m).take (8 + 1)).toArray⟩) := Lib.hid (by rw [htk.out, if_pos rfl]; unfold lastC; rw [show 11 - 8 / 3 = 9 from rfl, hs, show 6 - 3 * (8 / 3) = 0 from rfl, ho]; exact snoc_str _ _ 116 Hp.out)
            clear ho hs
            go_wp2_with (first | ((with_reducible refine (C1.out _).mono ?_); rintro e w' ⟨rfl, hw⟩; subst w') | ((with_reducible refine (C2.out _).mono ?_); rintro e w' ⟨rfl, hw⟩; subst w'))
            go_roundw
            case rel => exact ⟨9, by omega, congrArg Value.string hfin.out, rfl, (hE.trans (by show Below _ _ _; repeat' (first | (with_reducible exact Below.refl _ _) | (with_reducible assumption) | (with_reducible refine belowDrewN ?_ _) | (with_reducible refine Below.alloc ?_ ?_ _) | (with_reducible refine Below.drew ?_) | (with_reducible refine Below.setCell ?_ ?_ _) | go_size)))⟩
            case measure => simp [intOf]
          | false =>
            have C1 : Hid (∀ w, Calls Tryd.prog 61 #[.int .i64 m, .int .i64 0] w fun e w' => e = .returned (.bool true) ∧ w' = w) := Lib.hid (fun w => by have := bit_any m 0 (by omega) w; rw [ho] at this; exact this)
            have C2 : Hid (∀ w, Calls Tryd.prog 61 #[.int .i64 m, .int .i64 9] w fun e w' => e = .returned (.bool false) ∧ w' = w) := Lib.hid (fun w => by have := bit_any m 9 (by omega) w; rw [hs] at this; exact this)
            have hfin : Hid (p ++ ⟨#[120]⟩ = ⟨((modeL m).take (8 + 1)).toArray⟩) := Lib.hid (by rw [htk.out, if_pos rfl]; unfold lastC; rw [show 11 - 8 / 3 = 9 from rfl, hs]; unfold plainC; rw [show 8 - (3 * (8 / 3) + 2) = 0 from rfl, ho]; exact snoc_str _ _ 120 Hp.out)
            clear ho hs
            go_wp2_with (first | ((with_reducible refine (C1.out _).mono ?_); rintro e w' ⟨rfl, hw⟩; subst w') | ((with_reducible refine (C2.out _).mono ?_); rintro e w' ⟨rfl, hw⟩; subst w'))
            go_roundw
            case rel => exact ⟨9, by omega, congrArg Value.string hfin.out, rfl, (hE.trans (by show Below _ _ _; repeat' (first | (with_reducible exact Below.refl _ _) | (with_reducible assumption) | (with_reducible refine belowDrewN ?_ _) | (with_reducible refine Below.alloc ?_ ?_ _) | (with_reducible refine Below.drew ?_) | (with_reducible refine Below.setCell ?_ ?_ _) | go_size)))⟩
            case measure => simp [intOf]
        | false =>
          cases hs : bitB m 9 with
          | true =>
            have C1 : Hid (∀ w, Calls Tryd.prog 61 #[.int .i64 m, .int .i64 0] w fun e w' => e = .returned (.bool false) ∧ w' = w) := Lib.hid (fun w => by have := bit_any m 0 (by omega) w; rw [ho] at this; exact this)
            have C2 : Hid (∀ w, Calls Tryd.prog 61 #[.int .i64 m, .int .i64 9] w fun e w' => e = .returned (.bool true) ∧ w' = w) := Lib.hid (fun w => by have := bit_any m 9 (by omega) w; rw [hs] at this; exact this)
            have hfin : Hid (p ++ ⟨#[84]⟩ = ⟨((modeL m).take (8 + 1)).toArray⟩) := Lib.hid (by rw [htk.out, if_pos rfl]; unfold lastC; rw [show 11 - 8 / 3 = 9 from rfl, hs, show 6 - 3 * (8 / 3) = 0 from rfl, ho]; exact snoc_str _ _ 84 Hp.out)
            clear ho hs
            go_wp2_with (first | ((with_reducible refine (C1.out _).mono ?_); rintro e w' ⟨rfl, hw⟩; subst w') | ((with_reducible refine (C2.out _).mono ?_); rintro e w' ⟨rfl, hw⟩; subst w') | ((with_reducible refine (up1 116 84 (by decide) (by decide) _).mono ?_); rintro e w2 ⟨rfl, hx2⟩))
            go_roundw
            case rel => exact ⟨9, by omega, congrArg Value.string hfin.out, rfl, (hE.trans (Ext.trans (by show Below _ _ _; repeat' (first | (with_reducible exact Below.refl _ _) | (with_reducible assumption) | (with_reducible refine belowDrewN ?_ _) | (with_reducible refine Below.alloc ?_ ?_ _) | (with_reducible refine Below.drew ?_) | (with_reducible refine Below.setCell ?_ ?_ _) | go_size)) (Ext.trans hx2 (by show Below _ _ _; repeat' (first | (with_reducible exact Below.refl _ _) | (with_reducible assumption) | (with_reducible refine belowDrewN ?_ _) | (with_reducible refine Below.alloc ?_ ?_ _) | (with_reducible refine Below.drew ?_) | (with_reducible refine Below.setCell ?_ ?_ _) | go_size)))))⟩
            case measure => simp [intOf]
          | false =>
            have C1 : Hid (∀ w, Calls Tryd.prog 61 #[.int .i64 m, .int .i64 0] w fun e w' => e = .returned (.bool false) ∧ w' = w) := Lib.hid (fun w => by have := bit_any m 0 (by omega) w; rw [ho] at this; exact this)
            have C2 : Hid (∀ w, Calls Tryd.prog 61 #[.int .i64 m, .int .i64 9] w fun e w' => e = .returned (.bool false) ∧ w' = w) := Lib.hid (fun w => by have := bit_any m 9 (by omega) w; rw [hs] at this; exact this)
            have hfin : Hid (p ++ ⟨#[45]⟩ = ⟨((modeL m).take (8 + 1)).toArray⟩) := Lib.hid (by rw [htk.out, if_pos rfl]; unfold lastC; rw [show 11 - 8 / 3 = 9 from rfl, hs]; unfold plainC; rw [show 8 - (3 * (8 / 3) + 2) = 0 from rfl, ho]; exact snoc_str _ _ 45 Hp.out)
            clear ho hs
            go_wp2_with (first | ((with_reducible refine (C1.out _).mono ?_); rintro e w' ⟨rfl, hw⟩; subst w') | ((with_reducible refine (C2.out _).mono ?_); rintro e w' ⟨rfl, hw⟩; subst w'))
            go_roundw
            case rel => exact ⟨9, by omega, congrArg Value.string hfin.out, rfl, (hE.trans (by show Below _ _ _; repeat' (first | (with_reducible exact Below.refl _ _) | (with_reducible assumption) | (with_reducible refine belowDrewN ?_ _) | (with_reducible refine Below.alloc ?_ ?_ _) | (with_reducible refine Below.drew ?_) | (with_reducible refine Below.setCell ?_ ?_ _) | go_size)))⟩
            case measure => simp [intOf]
    · obtain rfl : j = 9 := by omega
      have hv : Hid ((modeL m).take 9 = modeL m) := Lib.hid (List.take_of_length_le (by unfold modeL; rw [row2_len]; exact Nat.le_refl _))
      go_wp2_with fail
      go_ret
      exact ⟨ret_val (by rw [hv.out]; rfl), hE⟩
end Go.Proofs.YtbofobakphlpbaaDoor
