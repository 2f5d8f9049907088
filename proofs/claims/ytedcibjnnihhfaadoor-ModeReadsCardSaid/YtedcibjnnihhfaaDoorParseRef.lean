/-
  The reference's ModeParse.
-/
import Derived.Test.YtedcibjnnihhfaaDoorModeRef
import Derived.Test.YtedcibjnnihhfaaDoorParseV
namespace Go.Proofs.YtedcibjnnihhfaaDoor
open Go.RowKit Go.PlainAid

set_option maxHeartbeats 1600000 in
set_option maxRecDepth 100000 in
theorem refParse_any (s : ByteArray) (w : World) : Calls Tryd.prog 23 #[.string s] w fun e w' => e = .returned (.tuple #[.int .i64 (mrV s.data.toList), .int .i64 (mrE s.data.toList)]) ∧ Ext w w' := by
  by_cases h9 : s.size = 9
  · have q9 : ((s.size : Int) == 9) = true := by simp [h9]
    clear h9
    go_enter Tryd.func23, Tryd.ntmps23
    go_wp2_with fail
    go_loopw [8] (fun i wr => ∃ k : Nat, k ≤ 4096 ∧ i = .int .i64 (k : Int) ∧ Hid (∀ m : Nat, m < k → modeL (m : Int) ≠ s.data.toList) ∧ Ext w wr) (fun i _ => (4096 - intOf i).toNat)
    case atStart => exact ⟨0, by omega, rfl, Lib.hid (fun m hm => by omega), Ext.refl _⟩
    case round =>
      obtain ⟨k, hk, rfl, hno, hE⟩ := hrel
      by_cases hlt : k < 4096
      · have C1 := Lib.hid (fun w => refModeText_any (k : Int) w)
        obtain ⟨t, ht⟩ : ∃ t : ByteArray, t = ⟨(modeL (k : Int)).toArray⟩ := ⟨_, rfl⟩
        rw [← ht] at C1
        have HT : Hid (t.data.toList = modeL (k : Int)) := Lib.hid (by rw [ht])
        clear ht
        cases hq : (t.toList == s.toList) with
        | true =>
          have e0 : Hid (t = s) := Lib.hid (by
            have : t.toList = s.toList := by simpa using hq
            rw [ByteArray.toList_eq, ByteArray.toList_eq] at this
            exact ByteArray.ext (by simpa using this))
          have ev : Hid (mrV s.data.toList = (k : Int) ∧ mrE s.data.toList = 0) := Lib.hid (mr_hit hlt (by rw [← HT.out, e0.out]))
          go_wp2_with fail
          refine (C1.out _).mono ?_; rintro e w1 ⟨rfl, hx1⟩
          go_wp2_with fail
          go_ret2
          exact ⟨ret_val (by rw [ev.out.1, ev.out.2]; rfl), hE.trans hx1⟩
        | false =>
          have hne : Hid (modeL (k : Int) ≠ s.data.toList) := Lib.hid (fun h => by
            rw [← HT.out] at h
            rw [ByteArray.toList_eq, ByteArray.toList_eq, h] at hq
            simp at hq)
          go_wp2_with fail
          refine (C1.out _).mono ?_; rintro e w1 ⟨rfl, hx1⟩
          go_wp2_with fail
          go_roundw
          case rel => exact ⟨k + 1, by omega, by go_num, Lib.hid (fun m hm => by
            rcases Nat.lt_succ_iff_lt_or_eq.1 hm with h | rfl
            · exact hno.out m h
            · exact hne.out), hE.trans hx1⟩
          case measure => simp [intOf]; omega
      · obtain rfl : k = 4096 := by omega
        have ev : Hid (mrV s.data.toList = 0 ∧ mrE s.data.toList = 3) := Lib.hid (mr_none hno.out)
        go_wp2_with fail
        go_ret2
        exact ⟨ret_val (by rw [ev.out.1, ev.out.2]; rfl), hE⟩
  · have q9 : ((s.size : Int) == 9) = false := by rw [beq_eq_false_iff_ne]; omega
    have ev : Hid (mrV s.data.toList = 0 ∧ mrE s.data.toList = 3) := Lib.hid (mr_bad fun h => h9 (by rw [← h.1]; rfl))
    clear h9
    go_enter Tryd.func23, Tryd.ntmps23
    go_wp2_with fail
    go_ret2
    exact ⟨ret_val (by rw [ev.out.1, ev.out.2]; rfl), (by show Below _ _ _; repeat' (first | (with_reducible exact Below.refl _ _) | (with_reducible assumption) | (with_reducible refine belowDrewN ?_ _) | (with_reducible refine Below.alloc ?_ ?_ _) | (with_reducible refine Below.drew ?_) | (with_reducible refine Below.setCell ?_ ?_ _) | go_size))⟩
end Go.Proofs.YtedcibjnnihhfaaDoor
