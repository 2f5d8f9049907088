/-
  member.lines: the pieces as lines. No conditions but the pieces' bounds.
-/
import Derived.Test.YtnbcbipigiopbaaGreatDoorPxW
import Derived.Test.YtnbcbipigiopbaaGreatDoorRow
namespace Go.Proofs.YtnbcbipigiopbaaGreatDoor
open Go.RowKit Go.WideShapes

/-- The lines, filled. -/
def linB (A S : Nat → Int) (n : Nat) : ByteArray := lnsB A S n n ++ padB (lnsB A S n n).size
theorem linB_size {A S : Nat → Int} {n : Nat} (hn : n ≤ 20) (h : ∀ k, k < n → 0 ≤ A k ∧ A k ≤ 4000 ∧ 0 ≤ S k ∧ S k ≤ 4000) : (linB A S n).size ≤ 1200 := by
  have h1 := lnsB_size hn h n (Nat.le_refl _)
  have h2 := padB_size (lnsB A S n n).size
  unfold linB
  rw [ByteArray.size_append]
  omega

set_option maxHeartbeats 4000000 in
set_option maxRecDepth 100000 in
theorem lines_any (pa : Option Addr) (n cap : Nat) (A S : Nat → Int) (w : World) (hp : IsPieces w (.slice pa n cap) n A S) (hn : n ≤ 20) (hb : ∀ k, k < n → 0 ≤ A k ∧ A k ≤ 4000 ∧ 0 ≤ S k ∧ S k ≤ 4000) (ht : HasPow w) :
    Calls Tryz.prog 98 #[.slice pa n cap] w fun x w' => x = .returned (.string (linB A S n)) ∧ Ext w w' := by
  have C0 := Lib.hid (fun w ht => itoa_any (n : Int) (by omega) (by omega) w ht)
  have Hz := Lib.hid (fun k hk => lnsB_size hn hb k hk)
  have CF := Lib.hid (fun w => fill_any (lnsB A S n n) (by have := lnsB_size hn hb n (Nat.le_refl _); omega) w)
  have hpd := padB_size (lnsB A S n n).size
  have hl : Hid (linB A S n = lnsB A S n n ++ padB (lnsB A S n n).size) := Lib.hid rfl
  have h0 : Hid (lnsB A S n 0 = itB n ++ ⟨#[10]⟩) := Lib.hid rfl
  have hi0 := itB_size n (by omega) (by omega)
  have Hp := Lib.hid hp
  have Hb := Lib.hid hb
  generalize padB (lnsB A S n n).size = PD at *
  clear hp hb
  unfold itB at h0 hi0
  generalize (⟨(Lib.itoa n).toArray⟩ : ByteArray) = i0 at *
  go_enter Tryz.func98, Tryz.ntmps98
  go_wp2_with fail
  refine (C0.out _ ht).mono ?_; rintro x w1 ⟨rfl, hx1⟩
  go_wp2_with fail
  go_loopw [3, 12] (fun s i wr => ∃ j : Nat, j ≤ n ∧ s = .string (lnsB A S n j) ∧ i = .int .i64 (j : Int) ∧ Ext w wr) (fun _ i _ => n - (intOf i).toNat)
  case atStart => exact ⟨0, Nat.zero_le _, by rw [h0.out], rfl, hx1⟩
  case round =>
    obtain ⟨j, hj, rfl, rfl, hE⟩ := hrel
    have hz := Hz.out j hj
    by_cases hlt : j < n
    · as_aux_lemma =>
        have hb := Hb.out j hlt
        have C1 := Lib.hid (fun w ht => itoa_any (A j) (by omega) (by omega) w ht)
        have C2 := Lib.hid (fun w ht => itoa_any (S j) (by omega) (by omega) w ht)
        have z1 := itB_size (A j) (by omega) (by omega)
        have z2 := itB_size (S j) (by omega) (by omega)
        have hst : Hid (lnsB A S n (j + 1) = lnsB A S n j ++ (itB (A j) ++ ⟨#[10]⟩ ++ itB (S j) ++ ⟨#[10]⟩)) := Lib.hid rfl
        have hzz : (lnsB A S n j).size ≤ 1000 := by omega
        rcases Hp.out.ext hE with ⟨_, h0⟩ | ⟨b, off, cap', hv, _, hcells⟩
        · omega
        · simp only [Value.slice.injEq] at hv
          obtain ⟨rfl, _, rfl⟩ := hv
          obtain ⟨g1, g2⟩ := hcells j hlt
          have hwr := Hid.out (Lib.hid (ht.ext hE))
          have hwa : Ext w (wr.alloc (.cells #[.int .i64 (A j), .int .i64 (S j)] 141)) := hE.alloc _
          clear hcells Hp CF hl hz Hz Hb hb h0
          unfold itB at hst z1 z2
          generalize lnsB A S n j = R at *
          generalize (⟨(Lib.itoa (A j)).toArray⟩ : ByteArray) = d1 at *
          generalize (⟨(Lib.itoa (S j)).toArray⟩ : ByteArray) = d2 at *
          generalize A j = aj at *
          generalize S j = sj at *
          go_wp2_with fail
          refine wp_region_det (Stood _) (by kernel_rfl) (by kernel_rfl) (Stood.start _) ?_
          repeat (first
            | (refine det_skip (by rfl) ?_; simp only [Act.put, List.setIfInBounds_toArray, List.set_cons_zero, List.set_cons_succ])
            | (refine det_op (v := ?_) rfl (by rfl) (fun w' hS => ?_) ?_; rotate_left; (focus (obtain ⟨hcl, hxt⟩ := hS; go_wp2_with (first | ((with_reducible refine (C1.out _ (ht.ext (hwa.trans hxt))).mono ?_); rintro e w1 ⟨rfl, hx1⟩) | ((with_reducible refine (C2.out _ (ht.ext (hwa.trans hxt))).mono ?_); rintro e w1 ⟨rfl, hx1⟩)); (first | refine ⟨?_, rfl, hcl, hxt⟩ | refine ⟨?_, rfl, Stood.of (hxt.trans (by assumption))⟩); (first | (simp only [List.getElem?_toArray, List.getElem?_cons_succ, List.getElem?_cons_zero]; rfl) | rfl))); simp only [Act.put, List.setIfInBounds_toArray, List.set_cons_zero, List.set_cons_succ]))
          refine det_end ?_
          intro w4 hS
          have hx4 := hS.2
          clear hS
          go_wp2_with fail
          go_roundw
          case rel => exact ⟨j + 1, hlt, by rw [hst.out], by go_num, hwa.trans hx4⟩
          case measure => simp [intOf]; omega
    · obtain rfl : j = n := by omega
      as_aux_lemma =>
        clear Hp Hb Hz h0 C0
        generalize lnsB A S j j = R at *
        go_wp2_with fail
        refine (CF.out _).mono ?_; rintro x w2 ⟨rfl, hx2⟩
        go_wp2_with fail
        go_ret
        exact ⟨by rw [hl.out]; rfl, hE.trans hx2⟩
end Go.Proofs.YtnbcbipigiopbaaGreatDoor
