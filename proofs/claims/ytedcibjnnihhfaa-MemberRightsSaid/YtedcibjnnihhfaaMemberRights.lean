/-
  The law MemberRights holds: Right and Sparse return what the reference returns for any member. No conditions.
-/
import Derived.Test.YtedcibjnnihhfaaMemROther
import Derived.Test.YtedcibjnnihhfaaMemRFile
import Derived.Test.YtedcibjnnihhfaaMemRHard
import Derived.Test.YtedcibjnnihhfaaMemRSoft
import Derived.Test.YtedcibjnnihhfaaMemRChr
import Derived.Test.YtedcibjnnihhfaaMemRBlk
import Derived.Test.YtedcibjnnihhfaaEntArg
namespace Go.Proofs.Ytedcibjnnihhfaa.memberRights
open Go.ChangeShapes Go.WideShapes Go.ChangeAt Go.RowKit Go.Joins

theorem entRight_any (e : Ent) (ok : e.Ok) (A S : Nat → Int) (w : World) (hp : IsPieces w (.slice e.pa e.pn e.pc) e.pn A S) :
    Calls Try.prog 16 #[.agg #[.string e.nm, .int .u8 e.kd, .int .i64 e.md, .int .i64 e.ui, .int .i64 e.gi, .int .i64 e.sz, .int .i64 e.ts, .int .i64 e.tn, .string e.lk, .string e.us, .string e.gr, .int .i64 e.ma, .int .i64 e.mi, .string e.dt, .slice e.pa e.pn e.pc]] w fun x w' => x = .returned (.bool (memB e.kd e.md e.ui e.gi e.sz e.ts e.tn e.ma e.mi e.nm e.lk e.us e.gr e.dt e.pn A S)) ∧ Ext w w' := by
  have t : ∀ k : Int, e.kd = k → (e.kd == k) = true := fun k h => by simp [h]
  have f : ∀ k : Int, e.kd ≠ k → (e.kd == k) = false := fun k h => by simp [h]
  by_cases h48 : e.kd = 48
  · exact entRight_file e ok A S w hp (t _ h48) (f _ (by omega)) (f _ (by omega)) (f _ (by omega)) (f _ (by omega))
  · by_cases h49 : e.kd = 49
    · exact entRight_hard e ok A S w hp (f _ h48) (t _ h49) (f _ (by omega)) (f _ (by omega)) (f _ (by omega))
    · by_cases h50 : e.kd = 50
      · exact entRight_soft e ok A S w hp (f _ h48) (f _ h49) (t _ h50) (f _ (by omega)) (f _ (by omega))
      · by_cases h51 : e.kd = 51
        · exact entRight_chr e ok A S w hp (f _ h48) (f _ h49) (f _ h50) (t _ h51) (f _ (by omega))
        · by_cases h52 : e.kd = 52
          · exact entRight_blk e ok A S w hp (f _ h48) (f _ h49) (f _ h50) (f _ h51) (t _ h52)
          · exact entRight_other e ok A S w hp (f _ h48) (f _ h49) (f _ h50) (f _ h51) (f _ h52)

set_option maxHeartbeats 4000000 in
set_option maxRecDepth 100000 in
theorem law (e : Ent) (ok : e.Ok) (A S : Nat → Int) (w : World) (hp : IsPieces w (.slice e.pa e.pn e.pc) e.pn A S) :
    Calls Try.prog 6 #[.agg #[.string e.nm, .int .u8 e.kd, .int .i64 e.md, .int .i64 e.ui, .int .i64 e.gi, .int .i64 e.sz, .int .i64 e.ts, .int .i64 e.tn, .string e.lk, .string e.us, .string e.gr, .int .i64 e.ma, .int .i64 e.mi, .string e.dt, .slice e.pa e.pn e.pc]] w fun x w' => x = .returned (.bool true) ∧ Ext w w' := by
  have C1 := Lib.hid (fun w => large_any e ok w)
  have C2 := Lib.hid (fun W (hE : Ext w W) => memRight_any e ok A S W (hp.ext hE))
  have C3 := Lib.hid (fun W (hE : Ext w W) => entRight_any e ok A S W (hp.ext hE))
  have C4 := Lib.hid (fun w => sparse_any e ok w)
  have C5 := Lib.hid (fun w => refSparse_any e ok w)
  have h5 := ok.dt
  have h6 := ok.pn
  clear hp
  generalize largeB e = l at *
  generalize memB e.kd e.md e.ui e.gi e.sz e.ts e.tn e.ma e.mi e.nm e.lk e.us e.gr e.dt e.pn A S = m at *
  generalize spB e.sz e.dt e.pn = p at *
  cases l
  · go_enter Try.func6, Try.ntmps6
    go_wp2_with fail
    refine wp_region_det (Stood _) (by kernel_rfl) (by kernel_rfl) (Stood.start _) ?_
    repeat (first
      | (refine det_skip (by rfl) ?_; simp only [Act.put, List.setIfInBounds_toArray, List.set_cons_zero, List.set_cons_succ])
      | (refine det_op (v := ?_) rfl (by rfl) (fun w' hS => ?_) ?_; rotate_left; (focus (obtain ⟨hcl, hxt⟩ := hS; go_wp2_with (first | ((with_reducible refine (C1.out _).mono ?_); rintro e w1 ⟨rfl, hx1⟩) | ((with_reducible refine (C2.out _ (Ext.trans ((Ext.refl _).alloc _) hxt)).mono ?_); rintro e w1 ⟨rfl, hx1⟩) | ((with_reducible refine (C3.out _ (Ext.trans ((Ext.refl _).alloc _) hxt)).mono ?_); rintro e w1 ⟨rfl, hx1⟩) | ((with_reducible refine (C4.out _).mono ?_); rintro e w1 ⟨rfl, hx1⟩) | ((with_reducible refine (C5.out _).mono ?_); rintro e w1 ⟨rfl, hx1⟩)); (first | refine ⟨?_, rfl, hcl, hxt⟩ | refine ⟨?_, rfl, Stood.of (hxt.trans (by assumption))⟩); (first | (simp only [List.getElem?_toArray, List.getElem?_cons_succ, List.getElem?_cons_zero]; rfl) | rfl))); simp only [Act.put, List.setIfInBounds_toArray, List.set_cons_zero, List.set_cons_succ]))
    refine det_end ?_
    intro w1 hS
    have hx := hS.2
    clear hS
    go_wp2_with fail
    go_ret
    exact ⟨ret_bool (by simp), Ext.trans (by show Below _ _ _; repeat' (first | (with_reducible exact Below.refl _ _) | (with_reducible assumption) | (with_reducible refine belowDrewN ?_ _) | (with_reducible refine Below.alloc ?_ ?_ _) | (with_reducible refine Below.drew ?_) | (with_reducible refine Below.setCell ?_ ?_ _) | go_size)) hx⟩
  · go_enter Try.func6, Try.ntmps6
    go_wp2_with fail
    refine wp_region_det (Stood _) (by kernel_rfl) (by kernel_rfl) (Stood.start _) ?_
    repeat (first
      | (refine det_skip (by rfl) ?_; simp only [Act.put, List.setIfInBounds_toArray, List.set_cons_zero, List.set_cons_succ])
      | (refine det_op (v := ?_) rfl (by rfl) (fun w' hS => ?_) ?_; rotate_left; (focus (obtain ⟨hcl, hxt⟩ := hS; go_wp2_with (first | ((with_reducible refine (C1.out _).mono ?_); rintro e w1 ⟨rfl, hx1⟩)); (first | refine ⟨?_, rfl, hcl, hxt⟩ | refine ⟨?_, rfl, Stood.of (hxt.trans (by assumption))⟩); (first | (simp only [List.getElem?_toArray, List.getElem?_cons_succ, List.getElem?_cons_zero]; rfl) | rfl))); simp only [Act.put, List.setIfInBounds_toArray, List.set_cons_zero, List.set_cons_succ]))
    refine det_end ?_
    intro w1 hS
    have hx := hS.2
    clear hS
    go_wp2_with fail
    go_ret
    exact ⟨ret_bool (by simp), Ext.trans (by show Below _ _ _; repeat' (first | (with_reducible exact Below.refl _ _) | (with_reducible assumption) | (with_reducible refine belowDrewN ?_ _) | (with_reducible refine Below.alloc ?_ ?_ _) | (with_reducible refine Below.drew ?_) | (with_reducible refine Below.setCell ?_ ?_ _) | go_size)) hx⟩

theorem walk : Frame.Walks 6 Try.f6 := by
  intro H enc W base args ds p hval hA hsz
  rw [Try.params6] at hA hval hsz
  obtain ⟨v0, d0, rfl, rfl, h0⟩ := trodAll_one hA
  obtain ⟨e, A, S, rfl, ok, hp⟩ := arg_ent (hval 0 35 v0 rfl rfl) h0 hsz (j := 0) rfl rfl
  exact law e ok A S W hp

/-! ### The row -/
theorem plain : Frame.Plain Rows.memberRightsSpec Try.f6 := by
  refine ⟨rfl, fun H ds h => ?_⟩
  rw [Try.params6] at h
  match ds, h with
  | [_], _ => rfl
theorem read : ∀ t ∈ Try.f6.params.toList, Try.prog.readableRec t = true ∧ t < Try.prog.types.size := by
  rw [Try.params6]
  intro t ht
  simp at ht
  subst ht
  all_goals exact ⟨by kernel_rfl, of_decide_eq_true (by kernel_rfl)⟩
set_option maxRecDepth 100000 in
theorem over : Rows.memberRightsRow.holds Try.pinned (OpenSpec.ofChange Rows.memberRightsSpec) :=
  OpenClaim.holds_of_wide 6 Try.f6 rfl rfl rfl rfl rfl rfl rfl ⟨rfl, rfl, rfl, rfl, rfl⟩ rfl rfl rfl rfl rfl (by kernel_rfl) Try.func6 (by kernel_rfl)
    (of_decide_eq_true (by kernel_rfl)) (by unfold Func.isWrapper; first | (rw [if_pos (by decide +kernel)]; kernel_rfl) | (rw [if_neg (by decide +kernel)]; exact ⟨rfl, rfl⟩))
    (fun os started H enc _ => Frame.lifted Try.func6 (by kernel_rfl) plain (by kernel_rfl) read walk os started H enc
      (ChangeSpec.witness6 (enc := enc) (C := Try.checked) false ⟨#[], #[.agg #[.string ⟨#[]⟩, .int .u8 0, .int .i64 0, .int .i64 0, .int .i64 0, .int .i64 0, .int .i64 0, .int .i64 0, .string ⟨#[]⟩, .string ⟨#[]⟩, .string ⟨#[]⟩, .int .i64 0, .int .i64 0, .string ⟨#[]⟩, .slice none 0 0]], []⟩ 8 (by kernel_rfl) (by kernel_rfl) (by kernel_rfl) (by kernel_rfl)))

theorem memberRights_holds : Rows.MemberRightsSaid := over
#print axioms memberRights_holds
end Go.Proofs.Ytedcibjnnihhfaa.memberRights
