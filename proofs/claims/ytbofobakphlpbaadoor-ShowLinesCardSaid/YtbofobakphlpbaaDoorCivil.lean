/-
  The calendar: the date that the program reckons for a day is the one that counting years and months finds. Plain Lean: no conditions.
-/
import Derived.IntWalk
namespace Go.Proofs.YtbofobakphlpbaaDoor.Cal

/-- Has a year a day more? -/
def lp (y : Int) : Int := if y % 4 = 0 ∧ (y % 100 ≠ 0 ∨ y % 400 = 0) then 1 else 0
theorem lp_01 (y : Int) : lp y = 0 ∨ lp y = 1 := by unfold lp; split <;> simp
/-- The days from 1970 to the first of March of a year. -/
def mar (y : Int) : Int := 365 * y + y / 4 - y / 100 + y / 400 - 719468
theorem mar_succ (y : Int) : mar y = mar (y - 1) + 365 + lp y := by unfold mar lp; split <;> omega
theorem mar_mono {a b : Int} (h : a ≤ b) : mar a ≤ mar b := by unfold mar; omega
theorem mar_era (y k : Int) : mar (y + 400 * k) = mar y + 146097 * k := by unfold mar; omega
/-- The days from 1970 to a year's first day. -/
def dby (y : Int) : Int := mar (y - 1) + 306
theorem dby_succ (y : Int) : dby (y + 1) = dby y + 365 + lp y := by unfold dby; have := mar_succ y; rw [show y + 1 - 1 = y by omega]; omega
theorem dby_mono {a b : Int} (h : a ≤ b) : dby a ≤ dby b := by unfold dby; have := mar_mono (show a - 1 ≤ b - 1 by omega); omega
theorem dby_up (y : Int) : dby (y + 400) = dby y + 146097 := by unfold dby; have := mar_era (y - 1) 1; rw [show y - 1 + 400 * 1 = y + 400 - 1 by omega] at this; omega
theorem dby_down (y : Int) : dby (y - 400) = dby y - 146097 := by have := dby_up (y - 400); rw [show y - 400 + 400 = y by omega] at this; omega
theorem dby_start : dby 1970 = 0 := by decide
theorem dby_mar (y : Int) : dby y + 59 + lp y = mar y := by unfold dby; have := mar_succ y; omega
/-- The days from a year's first one to that of its month m (0: January). -/
def dbm (y m : Int) : Int := if m = 0 then 0 else if m = 1 then 31 else 59 + lp y + (153 * (m - 2) + 2) / 5
/-- How many days month m has. -/
def mlen (y m : Int) : Int := dbm y (m + 1) - dbm y m
theorem mlen_pos (y m : Int) (h0 : 0 ≤ m) (h1 : m ≤ 11) : 28 ≤ mlen y m ∧ mlen y m ≤ 31 := by
  have := lp_01 y
  unfold mlen dbm
  rcases (show m = 0 ∨ m = 1 ∨ 2 ≤ m by omega) with rfl | rfl | h
  · simp
  · simp; omega
  · rw [if_neg (by omega), if_neg (by omega), if_neg (by omega), if_neg (by omega)]; omega
theorem dbm_zero (y : Int) : dbm y 0 = 0 := rfl
theorem dbm_last (y : Int) : dbm y 12 = 365 + lp y := by unfold dbm; rw [if_neg (by decide), if_neg (by decide)]; omega
theorem dbm_succ (y m : Int) : dbm y (m + 1) = dbm y m + mlen y m := by unfold mlen; omega
theorem dbm_mono (y : Int) {a b : Int} (h0 : 0 ≤ a) (h : a ≤ b) (h1 : b ≤ 12) : dbm y a ≤ dbm y b := by
  have := lp_01 y
  unfold dbm
  repeat' split
  all_goals omega
theorem dbm_nn (y m : Int) (h0 : 0 ≤ m) (h1 : m ≤ 12) : 0 ≤ dbm y m := by have := dbm_mono y (Int.le_refl 0) h0 h1; rw [dbm_zero] at this; exact this

/-- A day's year, month (from 0) and day (from 0). -/
structure At (D y m d : Int) : Prop where
  num : dby y + dbm y m + d = D
  m0 : 0 ≤ m
  m1 : m ≤ 11
  d0 : 0 ≤ d
  d1 : d < mlen y m
theorem At.in_year {D y m d : Int} (h : At D y m d) : 0 ≤ D - dby y ∧ D - dby y < 365 + lp y := by
  have h1 := h.num
  have h2 := dbm_nn y m h.m0 (by have := h.m1; omega)
  have h3 := h.d0
  have h4 := h.d1
  have h5 := dbm_succ y m
  have h6 := dbm_mono y (a := m + 1) (b := 12) (by have := h.m0; omega) (by have := h.m1; omega) (by omega)
  rw [dbm_last] at h6
  omega
theorem At.uniq {D y m d y' m' d' : Int} (h : At D y m d) (k : At D y' m' d') : y = y' ∧ m = m' ∧ d = d' := by
  obtain ⟨a1, a2⟩ := h.in_year
  obtain ⟨b1, b2⟩ := k.in_year
  have hy : y = y' := by
    rcases Int.lt_trichotomy y y' with hl | he | hl
    · have := dby_mono (show y + 1 ≤ y' by omega); rw [dby_succ] at this; omega
    · exact he
    · have := dby_mono (show y' + 1 ≤ y by omega); rw [dby_succ] at this; omega
  subst hy
  have h1 := h.num
  have k1 := k.num
  have h3 := h.d0
  have h4 := h.d1
  have k3 := k.d0
  have k4 := k.d1
  have hm : m = m' := by
    rcases Int.lt_trichotomy m m' with hl | he | hl
    · have := dbm_mono y (a := m + 1) (b := m') (by have := h.m0; omega) (by omega) (by have := k.m1; omega); rw [dbm_succ] at this; omega
    · exact he
    · have := dbm_mono y (a := m' + 1) (b := m) (by have := k.m0; omega) (by omega) (by have := h.m1; omega); rw [dbm_succ] at this; omega
  subst hm
  exact ⟨rfl, rfl, by omega⟩

/-! ### What the program reckons -/
def era (D : Int) : Int := (D + 719468) / 146097
def inn (D : Int) : Int := D + 719468 - era D * 146097
def yoe (n : Int) : Int := (n - n / 1460 + n / 36524 - n / 146096) / 365
def doy (n : Int) : Int := n - (365 * yoe n + yoe n / 4 - yoe n / 100)
theorem inn_rng (D : Int) : 0 ≤ inn D ∧ inn D ≤ 146096 := by unfold inn era; omega
theorem yoe_rng (n : Int) (h0 : 0 ≤ n) (h1 : n ≤ 146096) : 0 ≤ yoe n ∧ yoe n ≤ 399 := by unfold yoe; omega
theorem lo_of (n q c y : Int) (h0 : 0 ≤ n) (h1 : n ≤ 146095) (hq : q = n / 1460) (hc : c = n / 36524) (hy : y = (n - q + c - 0) / 365) : 365 * y + y / 4 - y / 100 ≤ n := by
  have c0 : 0 ≤ c ∧ c ≤ 3 := by omega
  have hqc : c ≤ q := by omega
  have hyc : 365 * y ≤ n + c - q := by omega
  have hj : y / 4 ≤ q := by
    have : 1460 * (y / 4) ≤ n := by omega
    omega
  have hyb : 100 * c ≤ y := by
    rcases (show c = 0 ∨ c = 1 ∨ c = 2 ∨ c = 3 by omega) with rfl | rfl | rfl | rfl <;> omega
  have hd : c ≤ y / 100 := by omega
  omega
theorem hi_of (n q c y : Int) (h0 : 0 ≤ n) (h1 : n ≤ 146095) (hq : q = n / 1460) (hc : c = n / 36524) (hy : y = (n - q + c - 0) / 365) : n < 365 * (y + 1) + (y + 1) / 4 - (y + 1) / 100 + (y + 1) / 400 := by
  have c0 : 0 ≤ c ∧ c ≤ 3 := by omega
  have hyc : n + c - q < 365 * (y + 1) := by omega
  have hyd : 365 * y ≤ n + c - q := by omega
  have hj : 4 * q ≤ y + 1 := by omega
  have hyb : y ≤ 100 * c + 99 := by
    rcases (show c = 0 ∨ c = 1 ∨ c = 2 ∨ c = 3 by omega) with rfl | rfl | rfl | rfl <;> omega
  rcases (show y + 1 = 100 * c + 100 ∨ (y + 1) / 100 ≤ c by omega) with h | h
  · rcases (show c = 0 ∨ c = 1 ∨ c = 2 ∨ c = 3 by omega) with rfl | rfl | rfl | rfl <;> omega
  · have : q ≤ (y + 1) / 4 := by omega
    have : 0 ≤ (y + 1) / 400 := by omega
    omega
theorem yoe_lo (n : Int) (h0 : 0 ≤ n) (h1 : n ≤ 146096) : 365 * yoe n + yoe n / 4 - yoe n / 100 ≤ n := by
  rcases (show n = 146096 ∨ n ≤ 146095 by omega) with rfl | h
  · decide
  · exact lo_of n (n / 1460) (n / 36524) _ h0 h rfl rfl (by unfold yoe; rw [show n / 146096 = 0 by omega])
theorem yoe_hi (n : Int) (h0 : 0 ≤ n) (h1 : n ≤ 146096) : n < 365 * (yoe n + 1) + (yoe n + 1) / 4 - (yoe n + 1) / 100 + (yoe n + 1) / 400 := by
  rcases (show n = 146096 ∨ n ≤ 146095 by omega) with rfl | h
  · decide
  · exact hi_of n (n / 1460) (n / 36524) _ h0 h rfl rfl (by unfold yoe; rw [show n / 146096 = 0 by omega])
def cm (n : Int) : Int := (5 * doy n + 2) / 153
def cd (n : Int) : Int := doy n - (153 * cm n + 2) / 5 + 1
def cy (D : Int) : Int := yoe (inn D) + 400 * era D
def dateY (D : Int) : Int := if cm (inn D) < 10 then cy D else cy D + 1
def dateM (D : Int) : Int := if cm (inn D) < 10 then cm (inn D) + 3 else cm (inn D) - 9
def dateD (D : Int) : Int := cd (inn D)
theorem doy_rng (D : Int) : 0 ≤ doy (inn D) ∧ doy (inn D) < 365 + lp (cy D + 1) ∧ mar (cy D) + doy (inn D) = D := by
  obtain ⟨h0, h1⟩ := inn_rng D
  obtain ⟨y0, y1⟩ := yoe_rng _ h0 h1
  have lo := yoe_lo _ h0 h1
  have hi := yoe_hi _ h0 h1
  have e1 : mar (cy D) = mar (yoe (inn D)) + 146097 * era D := mar_era _ _
  have e2 : mar (cy D + 1) = mar (yoe (inn D) + 1) + 146097 * era D := by
    have := mar_era (yoe (inn D) + 1) (era D)
    rw [← this]; unfold cy; congr 1; omega
  have e3 : mar (cy D + 1) = mar (cy D) + 365 + lp (cy D + 1) := by have := mar_succ (cy D + 1); rw [show cy D + 1 - 1 = cy D by omega] at this; exact this
  have hin : inn D = D + 719468 - era D * 146097 := rfl
  unfold doy
  generalize yoe (inn D) = y at *
  unfold mar at e1 e2 e3 ⊢
  generalize lp (cy D + 1) = L at *
  generalize cy D = c at *
  generalize era D = k at *
  refine ⟨by omega, by omega, by omega⟩
theorem date_at (D : Int) : At D (dateY D) (dateM D - 1) (dateD D - 1) := by
  obtain ⟨h0, h1, h2⟩ := doy_rng D
  have l1 := lp_01 (cy D + 1)
  have l2 := lp_01 (cy D)
  have m1 := dby_mar (cy D)
  have m2 : dby (cy D + 1) = mar (cy D) + 306 := by unfold dby; rw [show cy D + 1 - 1 = cy D by omega]
  unfold dateY dateM dateD cd
  have hcm : cm (inn D) = (5 * doy (inn D) + 2) / 153 := rfl
  generalize doy (inn D) = n at *
  generalize cm (inn D) = c at *
  rcases (show c < 10 ∨ c = 10 ∨ c = 11 by omega) with h | rfl | rfl
  · simp only [if_pos h]
    have e1 : dbm (cy D) (c + 3 - 1) = 59 + lp (cy D) + (153 * c + 2) / 5 := by unfold dbm; rw [if_neg (by omega), if_neg (by omega)]; congr 2; congr 1; omega
    have e2 : dbm (cy D) (c + 3 - 1 + 1) = 59 + lp (cy D) + (153 * (c + 1) + 2) / 5 := by unfold dbm; rw [if_neg (by omega), if_neg (by omega)]; congr 2; congr 1; omega
    exact ⟨by rw [e1]; omega, by omega, by omega, by omega, by unfold mlen; rw [e1, e2]; omega⟩
  · simp only [if_neg (show ¬ (10 : Int) < 10 by decide)]
    exact ⟨by rw [show (10 : Int) - 9 - 1 = 0 by decide, dbm_zero]; omega, by decide, by decide, by omega, by
      rw [show (10 : Int) - 9 - 1 = 0 by decide, show mlen (cy D + 1) 0 = 31 from rfl]; omega⟩
  · simp only [if_neg (show ¬ (11 : Int) < 10 by decide)]
    have e1 : dbm (cy D + 1) 1 = 31 := rfl
    have e2 : mlen (cy D + 1) 1 = 28 + lp (cy D + 1) := by unfold mlen dbm; simp; omega
    exact ⟨by rw [show (11 : Int) - 9 - 1 = 1 by decide, e1]; omega, by decide, by decide, by omega, by
      rw [show (11 : Int) - 9 - 1 = 1 by decide, e2]; omega⟩
end Go.Proofs.YtbofobakphlpbaaDoor.Cal
