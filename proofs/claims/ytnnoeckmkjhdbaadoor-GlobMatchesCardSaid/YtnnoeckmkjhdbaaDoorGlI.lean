/-
  The reference's GlobIs. No conditions but the text's length.
-/
import Derived.Test.YtnnoeckmkjhdbaaDoorGlQ
namespace Go.Proofs.YtnnoeckmkjhdbaaDoor
open Go.RowKit Go.PlainAid

set_option maxHeartbeats 1600000 in
set_option maxRecDepth 100000 in
theorem globIs_any (s : ByteArray) (hs : s.size ≤ 100000) (w : World) : Calls Tryd.prog 7 #[.string s] w fun x w' => x = .returned (.bool (isV s)) ∧ Ext w w' := by
  obtain ⟨B, hB⟩ : ∃ B, B = isV s := ⟨_, rfl⟩
  rw [← hB]
  have HB := Lib.hid hB
  clear hB
  go_enter Tryd.func7, Tryd.ntmps7
  go_wp2_with fail
  go_loopw [0] (fun v wr => ∃ (f : Nat) (t : ByteArray), v = .string t ∧ isL f t = B ∧ t.size < f ∧ t.size ≤ s.size ∧ Ext w wr) (fun v _ => lenOf v)
  case atStart => exact ⟨s.size + 1, s, rfl, HB.out.symm, Nat.lt_succ_self _, Nat.le_refl _, Ext.refl _⟩
  case round =>
    obtain ⟨f, t, rfl, k1, k2, k3, hE⟩ := hrel
    obtain ⟨f, rfl⟩ : ∃ e, f = e + 1 := ⟨f - 1, by omega⟩
    have HI := Lib.hid k1
    have e1 := gl_emp t
    have gt := get_bt t
    clear k1
    by_cases hz : t.size = 0
    · rw [decide_eq_true hz] at e1
      have hv : Hid (B = true) := Lib.hid (by rw [← HI.out, isL_end hz])
      clear hz
      go_wp2_with fail
      go_ret
      exact ⟨ret_bool (by rw [hv.out]), hE⟩
    · rw [decide_eq_false hz] at e1
      have z0 : 0 < t.size := by omega
      have i0 : (0 : Int) < (t.size : Int) := by omega
      have i1 : (1 : Int) ≤ (t.size : Int) := by omega
      have HZ := Lib.hid hz
      have hs1 := suf_size t 1
      clear hz
      cases q1 : bt t 0 == 42 with
      | true =>
        have hn : Hid (isL f (suf t 1) = B) := Lib.hid (by rw [← HI.out, isL_star HZ.out (.inl (by simpa using q1))])
        go_wp2_with fail
        go_roundw
        case rel => exact ⟨f, suf t 1, rfl, hn.out, by omega, by omega, hE⟩
        case measure => show (suf t 1).size < t.size; omega
      | false =>
        cases q2 : bt t 0 == 63 with
        | true =>
          have hn : Hid (isL f (suf t 1) = B) := Lib.hid (by rw [← HI.out, isL_star HZ.out (.inr (by simpa using q2))])
          go_wp2_with fail
          go_roundw
          case rel => exact ⟨f, suf t 1, rfl, hn.out, by omega, by omega, hE⟩
          case measure => show (suf t 1).size < t.size; omega
        | false =>
          have hns : Hid (¬ (bt t 0 = 42 ∨ bt t 0 = 63)) := Lib.hid (by
            rintro (h | h)
            · rw [h] at q1
              cases q1
            · rw [h] at q2
              cases q2)
          cases q3 : bt t 0 == 91 with
          | true =>
            have h91 : Hid (bt t 0 = 91) := Lib.hid (by simpa using q3)
            have CS := Lib.hid (fun w => glSetQ_any (t.extract 1 t.size) (by rw [ByteArray.size_extract]; omega) w)
            have hst := Lib.hid (isL_set (f := f) HZ.out h91.out)
            go_wp2_with fail
            refine (CS.out _).mono ?_; rintro x w5 ⟨v, r, ok, rfl, hx5, hcase⟩
            rcases hcase with ⟨hn, rfl, rfl, rfl⟩ | ⟨g, mb, c, hn, rfl, rfl, _⟩
            · have hv : Hid (B = false) := Lib.hid (by
                have hn2 : setV (suf t 1) = none := hn
                rw [← HI.out, hst.out, hn2])
              clear hn
              go_wp2_with fail
              go_ret
              exact ⟨ret_bool (by rw [hv.out]), hE.trans hx5⟩
            · have hr : Hid (isL f r = B ∧ r.size < t.size) := Lib.hid (by
                have hn2 : setV (suf t 1) = some (g, r) := hn
                have h3 := (setV_rest hn2).1
                exact ⟨by rw [← HI.out, hst.out, hn2], by omega⟩)
              clear hn
              go_wp2_with fail
              go_roundw
              case rel => exact ⟨f, r, rfl, hr.out.1, by have := hr.out.2; omega, by have := hr.out.2; omega, hE.trans hx5⟩
              case measure => exact hr.out.2
          | false =>
            have h91 : Hid (bt t 0 ≠ 91) := Lib.hid (by simpa using q3)
            have CL := Lib.hid (fun w => glLetter_any t (by omega) w)
            have hst := Lib.hid (isL_let (f := f) HZ.out hns.out h91.out)
            cases hl : letV t with
            | none =>
              rw [hl] at CL hst
              unfold letR at CL
              have hv : Hid (B = false) := Lib.hid (by rw [← HI.out, hst.out])
              clear hl
              go_wp2_with fail
              refine (CL.out _).mono ?_; rintro x w5 ⟨rfl, hx5⟩
              go_wp2_with fail
              go_ret
              exact ⟨ret_bool (by rw [hv.out]), hE.trans hx5⟩
            | some p =>
              obtain ⟨a, r⟩ := p
              have hr : Hid (r.size < t.size) := Lib.hid (letV_rest hl).1
              rw [hl] at CL hst
              unfold letR at CL
              have hv : Hid (isL f r = B) := Lib.hid (by rw [← HI.out, hst.out])
              clear hl
              go_wp2_with fail
              refine (CL.out _).mono ?_; rintro x w5 ⟨rfl, hx5⟩
              go_wp2_with fail
              go_roundw
              case rel => exact ⟨f, r, rfl, hv.out, by have := hr.out; omega, by have := hr.out; omega, hE.trans hx5⟩
              case measure => exact hr.out
end Go.Proofs.YtnnoeckmkjhdbaaDoor
