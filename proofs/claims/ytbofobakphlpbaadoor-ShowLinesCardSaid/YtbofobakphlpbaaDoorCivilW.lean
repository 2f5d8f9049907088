/-
  Contract of stamp.civil: the date of a day.
-/
import Derived.Test.YtbofobakphlpbaaDoorTime
import Derived.Test.YtbofobakphlpbaaDoorCivil
import Derived.Deep.OwnRows
namespace Go.Proofs.YtbofobakphlpbaaDoor
open Go.RowKit

def dayOf (s : Int) : Int := s / 86400
def secOf (s : Int) : Int := s % 86400
def dateVal (s : Int) : Value := .agg #[.int .i64 (Cal.dateY (dayOf s)), .int .i64 (Cal.dateM (dayOf s)), .int .i64 (Cal.dateD (dayOf s)), .int .i64 (secOf s / 3600), .int .i64 (secOf s / 60 % 60), .int .i64 (secOf s % 60)]

theorem ret3 {a b c a' b' c' : Int} (h1 : a = a') (h2 : b = b') (h3 : c = c') : Ending.returned (.tuple #[.int .i64 a, .int .i64 b, .int .i64 c]) = .returned (.tuple #[.int .i64 a', .int .i64 b', .int .i64 c']) := by rw [h1, h2, h3]

set_option maxHeartbeats 1600000 in
set_option maxRecDepth 100000 in
theorem civil_any (D : Int) (h0 : -20000000 ≤ D) (h1 : D ≤ 20000000) (w : World) : Calls Tryd.prog 56 #[.int .i64 D] w fun e w' => e = .returned (.tuple #[.int .i64 (Cal.dateY D), .int .i64 (Cal.dateM D), .int .i64 (Cal.dateD D)]) ∧ w' = w := by
  obtain ⟨i0, i1⟩ := Cal.inn_rng D
  obtain ⟨y0, y1⟩ := Cal.yoe_rng _ i0 i1
  obtain ⟨n0, n1, _⟩ := Cal.doy_rng D
  have n2 : Cal.doy (Cal.inn D) ≤ 365 := by have := Cal.lp_01 (Cal.cy D + 1); omega
  have hY : Hid (Cal.dateY D = if Cal.cm (Cal.inn D) < 10 then Cal.yoe (Cal.inn D) + 400 * Cal.era D else Cal.yoe (Cal.inn D) + 400 * Cal.era D + 1) := Lib.hid rfl
  have hM : Hid (Cal.dateM D = if Cal.cm (Cal.inn D) < 10 then Cal.cm (Cal.inn D) + 3 else Cal.cm (Cal.inn D) - 9) := Lib.hid rfl
  have hD : Hid (Cal.dateD D = Cal.cd (Cal.inn D)) := Lib.hid rfl
  have r6 : Cal.doy (Cal.inn D) - (153 * Cal.cm (Cal.inn D) + 2) / 5 + 1 = Cal.cd (Cal.inn D) := rfl
  have r5 : (5 * Cal.doy (Cal.inn D) + 2) / 153 = Cal.cm (Cal.inn D) := rfl
  have r4 : Cal.inn D - (365 * Cal.yoe (Cal.inn D) + Cal.yoe (Cal.inn D) / 4 - Cal.yoe (Cal.inn D) / 100) = Cal.doy (Cal.inn D) := rfl
  have r3 : (Cal.inn D - Cal.inn D / 1460 + Cal.inn D / 36524 - Cal.inn D / 146096) / 365 = Cal.yoe (Cal.inn D) := rfl
  have r2 : D + 719468 - Cal.era D * 146097 = Cal.inn D := rfl
  have r1 : Hid (Cal.era D = (D + 719468) / 146097) := Lib.hid rfl
  have e0 : -300 ≤ Cal.era D ∧ Cal.era D ≤ 300 := by have := r1.out; omega
  clear n1
  generalize Cal.cd (Cal.inn D) = c at *
  generalize Cal.cm (Cal.inn D) = m at *
  generalize Cal.doy (Cal.inn D) = d at *
  generalize Cal.yoe (Cal.inn D) = Y at *
  generalize Cal.inn D = N at *
  generalize Cal.era D = E at *
  obtain ⟨e1, e2⟩ := e0
  have m0 : 0 ≤ m := by omega
  have m1 : m ≤ 11 := by omega
  have c0 : 1 ≤ c ∧ c ≤ 400 := by omega
  obtain ⟨c0, c1⟩ := c0
  have q1 : 0 ≤ N - N / 1460 + N / 36524 - N / 146096 := by omega
  have q2 : 0 ≤ 365 * Y + Y / 4 - Y / 100 := by omega
  have q3 : 365 * Y + Y / 4 - Y / 100 ≤ 150000 := by omega
  rcases (show 0 ≤ D + 719468 ∨ D + 719468 < 0 by omega) with hz | hz
  · have z1 : (D + 719468) / 146097 = E := r1.out.symm
    have z2 : ¬ (D + 719468) % 146097 < 0 := by omega
    by_cases hm : m < 10
    · go_enter Tryd.func56, Tryd.ntmps56
      go_wp2_with fail
      go_ret3
      exact ⟨ret3 (by rw [hY.out, if_pos (by omega)]) (by rw [hM.out, if_pos (by omega)]) (by rw [hD.out]), rfl⟩
    · have hm' : 10 ≤ m := by omega
      go_enter Tryd.func56, Tryd.ntmps56
      go_wp2_with fail
      go_ret3
      exact ⟨ret3 (by rw [hY.out, if_neg (by omega)]) (by rw [hM.out, if_neg (by omega)]) (by rw [hD.out]), rfl⟩
  · by_cases hzm : (D + 719468).tmod 146097 < 0
    · have z1 : (D + 719468).tdiv 146097 = E + 1 := by
        have h1 := r1.out
        have h2 := Int.tdiv_eq_ediv (a := D + 719468) (b := 146097)
        have h3 := Int.tmod_eq_emod (a := D + 719468) (b := 146097)
        split at h2 <;> split at h3 <;> simp [show Int.sign 146097 = 1 from rfl] at h2 h3 <;> omega
      by_cases hm : m < 10
      · go_enter Tryd.func56, Tryd.ntmps56
        go_wp2_with fail
        go_ret3
        exact ⟨ret3 (by rw [hY.out, if_pos (by omega)]) (by rw [hM.out, if_pos (by omega)]) (by rw [hD.out]), rfl⟩
      · have hm' : 10 ≤ m := by omega
        go_enter Tryd.func56, Tryd.ntmps56
        go_wp2_with fail
        go_ret3
        exact ⟨ret3 (by rw [hY.out, if_neg (by omega)]) (by rw [hM.out, if_neg (by omega)]) (by rw [hD.out]), rfl⟩
    · have z1 : (D + 719468).tdiv 146097 = E := by
        have h1 := r1.out
        have h2 := Int.tdiv_eq_ediv (a := D + 719468) (b := 146097)
        have h3 := Int.tmod_eq_emod (a := D + 719468) (b := 146097)
        split at h2 <;> split at h3 <;> simp [show Int.sign 146097 = 1 from rfl] at h2 h3 <;> omega
      have hzm' : 0 ≤ (D + 719468).tmod 146097 := by omega
      by_cases hm : m < 10
      · go_enter Tryd.func56, Tryd.ntmps56
        go_wp2_with fail
        go_ret3
        exact ⟨ret3 (by rw [hY.out, if_pos (by omega)]) (by rw [hM.out, if_pos (by omega)]) (by rw [hD.out]), rfl⟩
      · have hm' : 10 ≤ m := by omega
        go_enter Tryd.func56, Tryd.ntmps56
        go_wp2_with fail
        go_ret3
        exact ⟨ret3 (by rw [hY.out, if_neg (by omega)]) (by rw [hM.out, if_neg (by omega)]) (by rw [hD.out]), rfl⟩
end Go.Proofs.YtbofobakphlpbaaDoor
