/-
  member.Sparse, member.isFilled; the reference's Sparse.
-/
import Derived.Test.YtedcibjnnihhfaaMem
namespace Go.Proofs.Ytedcibjnnihhfaa
open Go.RowKit Go.WideShapes

set_option maxRecDepth 100000 in
theorem sparse_any (e : Ent) (ok : e.Ok) (w : World) : Calls Try.prog 17 #[.agg #[.string e.nm, .int .u8 e.kd, .int .i64 e.md, .int .i64 e.ui, .int .i64 e.gi, .int .i64 e.sz, .int .i64 e.ts, .int .i64 e.tn, .string e.lk, .string e.us, .string e.gr, .int .i64 e.ma, .int .i64 e.mi, .string e.dt, .slice e.pa e.pn e.pc]] w fun x w' => x = .returned (.bool (spB e.sz e.dt e.pn)) ∧ Ext w w' := by
  have h5 := ok.dt
  have h6 := ok.pn
  have hd : Hid (spB e.sz e.dt e.pn = (decide (0 < e.pn) || !((e.dt.size : Int) == e.sz))) := Lib.hid rfl
  rcases (show decide (0 < e.pn) = true ∨ decide (0 < e.pn) = false by cases decide (0 < e.pn) <;> simp) with q1 | q1
  all_goals
    have Q1 := Lib.hid q1
    go_enter Try.func17, Try.ntmps17
    go_wp2_with fail
    go_ret
    exact ⟨ret_bool (by rw [hd.out, Q1.out]; simp [bne]), (by show Below _ _ _; repeat' (first | (with_reducible exact Below.refl _ _) | (with_reducible assumption) | (with_reducible refine belowDrewN ?_ _) | (with_reducible refine Below.alloc ?_ ?_ _) | (with_reducible refine Below.drew ?_) | (with_reducible refine Below.setCell ?_ ?_ _) | go_size))⟩
set_option maxRecDepth 100000 in
theorem refSparse_any (e : Ent) (ok : e.Ok) (w : World) : Calls Try.prog 18 #[.agg #[.string e.nm, .int .u8 e.kd, .int .i64 e.md, .int .i64 e.ui, .int .i64 e.gi, .int .i64 e.sz, .int .i64 e.ts, .int .i64 e.tn, .string e.lk, .string e.us, .string e.gr, .int .i64 e.ma, .int .i64 e.mi, .string e.dt, .slice e.pa e.pn e.pc]] w fun x w' => x = .returned (.bool (spB e.sz e.dt e.pn)) ∧ Ext w w' := by
  have h5 := ok.dt
  have h6 := ok.pn
  have hd : Hid (spB e.sz e.dt e.pn = (decide (0 < e.pn) || !((e.dt.size : Int) == e.sz))) := Lib.hid rfl
  rcases (show ((e.dt.size : Int) != e.sz) = true ∨ ((e.dt.size : Int) != e.sz) = false by cases ((e.dt.size : Int) != e.sz) <;> simp) with q1 | q1
  all_goals
    have Q1 := Lib.hid q1
    go_enter Try.func18, Try.ntmps18
    go_wp2_with fail
    go_ret
    exact ⟨ret_bool (by rw [hd.out]; have := Q1.out; simp at this; simp [this]), (by show Below _ _ _; repeat' (first | (with_reducible exact Below.refl _ _) | (with_reducible assumption) | (with_reducible refine belowDrewN ?_ _) | (with_reducible refine Below.alloc ?_ ?_ _) | (with_reducible refine Below.drew ?_) | (with_reducible refine Below.setCell ?_ ?_ _) | go_size))⟩

set_option maxHeartbeats 4000000 in
set_option maxRecDepth 100000 in
theorem isFilled_any (e : Ent) (ok : e.Ok) (A S : Nat → Int) (w : World) (hp : IsPieces w (.slice e.pa e.pn e.pc) e.pn A S) :
    Calls Try.prog 31 #[.agg #[.string e.nm, .int .u8 e.kd, .int .i64 e.md, .int .i64 e.ui, .int .i64 e.gi, .int .i64 e.sz, .int .i64 e.ts, .int .i64 e.tn, .string e.lk, .string e.us, .string e.gr, .int .i64 e.ma, .int .i64 e.mi, .string e.dt, .slice e.pa e.pn e.pc]] w fun x w' => x = .returned (.bool (filB e.kd e.sz e.dt e.pn A S)) ∧ Ext w w' := by
  have h5 := ok.dt
  have h6 := ok.pn
  by_cases hk : e.kd = 48
  · have n48 : (e.kd != 48) = false := by simp [hk]
    have hd : Hid (filB e.kd e.sz e.dt e.pn A S = (rngB e.sz 0 4000 && (!spB e.sz e.dt e.pn || (holeB e.pn A S e.sz && ((e.dt.size : Int) == sumW S e.pn))))) := Lib.hid (by unfold filB; rw [if_pos hk])
    clear hk
    have C1 := Lib.hid (fun w => memWithin_same w e.sz 0 4000)
    have C2 := Lib.hid (fun w => sparse_any e ok w)
    cases hr : rngB e.sz 0 4000 with
    | false =>
      have Hr := Lib.hid hr
      clear hr
      go_enter Try.func31, Try.ntmps31
      go_wp2_with fail
      refine (C1.out _).mono ?_; rintro x w1 ⟨rfl, rfl⟩
      rw [Hr.out]
      go_wp2_with fail
      go_ret
      exact ⟨ret_bool (by rw [hd.out, Hr.out]; rfl), (by show Below _ _ _; repeat' (first | (with_reducible exact Below.refl _ _) | (with_reducible assumption) | (with_reducible refine belowDrewN ?_ _) | (with_reducible refine Below.alloc ?_ ?_ _) | (with_reducible refine Below.drew ?_) | (with_reducible refine Below.setCell ?_ ?_ _) | go_size))⟩
    | true =>
      have hsz : e.sz ≤ 9223372036854775807 := by
        unfold rngB at hr
        simp only [Bool.and_eq_true, decide_eq_true_eq] at hr
        omega
      have C3 := Lib.hid (fun W (hE : Ext w W) => holeRight_any W _ e.pn A S e.sz hsz (hp.ext hE))
      have C4 := Lib.hid (fun W (hE : Ext w W) => holeSize_any W _ e.pn A S (hp.ext hE))
      have Hr := Lib.hid hr
      clear hr hsz hp
      generalize holeB e.pn A S e.sz = b at *
      generalize sumW S e.pn = z at *
      generalize spB e.sz e.dt e.pn = p at *
      cases p <;> cases b
      all_goals
        go_enter Try.func31, Try.ntmps31
        go_wp2_with fail
        refine (C1.out _).mono ?_; rintro x w1 ⟨rfl, rfl⟩
        rw [Hr.out]
        go_wp2_with fail
        refine wp_region_det (Stood _) (by kernel_rfl) (by kernel_rfl) (Stood.start _) ?_
        repeat (first
          | (refine det_skip (by rfl) ?_; simp only [Act.put, List.setIfInBounds_toArray, List.set_cons_zero, List.set_cons_succ])
          | (refine det_op (v := ?_) rfl (by rfl) (fun w' hS => ?_) ?_; rotate_left; (focus (obtain ⟨hcl, hxt⟩ := hS; go_wp2_with (first | ((with_reducible refine (C2.out _).mono ?_); rintro e w1 ⟨rfl, hx1⟩) | ((with_reducible refine (C3.out _ (Ext.trans ((Ext.refl _).alloc _) hxt)).mono ?_); rintro e w1 ⟨rfl, hx1⟩) | ((with_reducible refine (C4.out _ (Ext.trans ((Ext.refl _).alloc _) hxt)).mono ?_); rintro e w1 ⟨rfl, hx1⟩)); (first | refine ⟨?_, rfl, hcl, hxt⟩ | refine ⟨?_, rfl, Stood.of (hxt.trans (by assumption))⟩); (first | (simp only [List.getElem?_toArray, List.getElem?_cons_succ, List.getElem?_cons_zero]; rfl) | rfl))); simp only [Act.put, List.setIfInBounds_toArray, List.set_cons_zero, List.set_cons_succ]))
        refine det_end ?_
        intro w2 hS
        have hx := hS.2
        clear hS
        go_wp2_with fail
        go_ret
        exact ⟨ret_bool (by rw [hd.out, Hr.out]; simp), Ext.trans (by show Below _ _ _; repeat' (first | (with_reducible exact Below.refl _ _) | (with_reducible assumption) | (with_reducible refine belowDrewN ?_ _) | (with_reducible refine Below.alloc ?_ ?_ _) | (with_reducible refine Below.drew ?_) | (with_reducible refine Below.setCell ?_ ?_ _) | go_size)) hx⟩
  · have n48 : (e.kd != 48) = true := by simp [hk]
    have hd : Hid (filB e.kd e.sz e.dt e.pn A S = ((e.sz == 0) && e.dt.toList.isEmpty && decide (e.pn = 0))) := Lib.hid (by unfold filB; rw [if_neg hk])
    clear hk hp
    rcases (show ((e.sz == 0) = false) ∨ ((e.sz == 0) = true ∧ e.dt.toList.isEmpty = false) ∨ ((e.sz == 0) = true ∧ e.dt.toList.isEmpty = true) by cases e.sz == 0 <;> cases e.dt.toList.isEmpty <;> simp) with q1 | ⟨q1, q2⟩ | ⟨q1, q2⟩
    all_goals
      go_enter Try.func31, Try.ntmps31
      go_wp2_with fail
      go_ret
      exact ⟨ret_bool (by rw [hd.out]; first | (simp [*]; done) | (rw [q1, q2, Bool.eq_iff_iff]; simp) | (rw [q1, q2, Bool.eq_iff_iff]; simp; omega)), (by show Below _ _ _; repeat' (first | (with_reducible exact Below.refl _ _) | (with_reducible assumption) | (with_reducible refine belowDrewN ?_ _) | (with_reducible refine Below.alloc ?_ ?_ _) | (with_reducible refine Below.drew ?_) | (with_reducible refine Below.setCell ?_ ?_ _) | go_size))⟩
end Go.Proofs.Ytedcibjnnihhfaa
