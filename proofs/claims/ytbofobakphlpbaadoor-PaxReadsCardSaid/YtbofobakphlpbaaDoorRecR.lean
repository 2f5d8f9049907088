/-
  pax.Record and the reference's Record.
-/
import Derived.Test.YtbofobakphlpbaaDoorRec
namespace Go.Proofs.YtbofobakphlpbaaDoor
open Go.RowKit

/-- The record of a pair, and the error. -/
def recV (k v : ByteArray) : ByteArray := if pairB k v then recB k v else ⟨#[]⟩
def recE (k v : ByteArray) : Int := if pairB k v then 0 else 1
theorem pairB_len {k v : ByteArray} (h : pairB k v = true) : k.size + v.size ≤ 200 := by
  unfold pairB at h
  simp only [Bool.and_eq_true, decide_eq_true_eq] at h
  omega

set_option maxHeartbeats 4000000 in
set_option maxRecDepth 100000 in
theorem refRecord_any (k v : ByteArray) (hl : k.size + v.size ≤ 900) (w : World) (ht : HasPow w) : Calls Tryd.prog 43 #[.agg #[.string k, .string v]] w fun e w' => e = .returned (.tuple #[.string (recV k v), .int .i64 (recE k v)]) ∧ Ext w w' := by
  have C1 := Lib.hid (fun w => pairRight_any k v (by omega) (by omega) w)
  have hx0 : Ext w (w.alloc (.cells #[.string k, .string v] 84)) := (Ext.refl w).alloc _
  have hcells : ∀ W : World, Ext (w.alloc (.cells #[.string k, .string v] 84)) W → W.cell? ⟨w.heap.size, 0, none⟩ = some (.string k) ∧ W.cell? ⟨w.heap.size, 1, none⟩ = some (.string v) ∧ w.heap.size < W.heap.size := fun W hW => by
    have h1 := hW.cell (show (w.alloc (.cells #[.string k, .string v] 84)).cell? ⟨w.heap.size, 0, none⟩ = some (.string k) by simp)
    have h2 := hW.cell (show (w.alloc (.cells #[.string k, .string v] 84)).cell? ⟨w.heap.size, 1, none⟩ = some (.string v) by simp)
    exact ⟨h1, h2, World.block_lt_of_cell? W _ h1⟩
  have Hcells := Lib.hid hcells
  have hv : Hid (recV k v = (if pairB k v then recB k v else ⟨#[]⟩) ∧ recE k v = if pairB k v then 0 else 1) := Lib.hid ⟨rfl, rfl⟩
  obtain ⟨b, hb⟩ : ∃ b : Nat, b = k.size + v.size + 3 := ⟨_, rfl⟩
  have hrec : Hid (recB k v = (⟨(Lib.decDigits (recN b)).toArray⟩ : ByteArray) ++ ⟨#[32]⟩ ++ k ++ ⟨#[61]⟩ ++ v ++ ⟨#[10]⟩) := Lib.hid (by unfold recB; rw [hb])
  have hd3 : dN b ≤ 3 := by unfold dN; split <;> (try split) <;> omega
  have hd1 : 1 ≤ dN b := by unfold dN; split <;> (try split) <;> omega
  have hr1 : recN b ≤ 910 := by unfold recN; omega
  have hr0 : 1 ≤ recN b := by unfold recN; omega
  have hfix := Lib.hid (dN_fix b (by omega))
  have hfirst := Lib.hid (fun n hn => recN_first b n (by omega) hn)
  have hk5 : k.size ≤ 900 := by omega
  have hv5 : v.size ≤ 900 := by omega
  have Hb := Lib.hid hb
  clear hcells hl hb hd3 hd1
  generalize pairB k v = p at *
  cases p
  · go_enter Tryd.func43, Tryd.ntmps43
    go_wp2_with fail
    refine (C1.out _).mono ?_; rintro e w1 ⟨rfl, hx1⟩
    go_wp2_with fail
    go_ret2
    exact ⟨ret_val (by rw [hv.out.1, hv.out.2]; rfl), hx0.trans hx1⟩
  · go_enter Tryd.func43, Tryd.ntmps43
    go_wp2_with fail
    refine (C1.out _).mono ?_; rintro e w1 ⟨rfl, hx1⟩
    go_wp2_with fail
    go_loopw [4] (fun d wr => ∃ n : Nat, 1 ≤ n ∧ n ≤ recN b ∧ d = .int .i64 (n : Int) ∧ Ext (w.alloc (.cells #[.string k, .string v] 84)) wr) (fun d _ => (recN b + 1 - intOf d).toNat)
    case atStart => exact ⟨1, by omega, hr0, rfl, hx1⟩
    case round =>
      obtain ⟨n, hn1, hn2, rfl, hE⟩ := hrel
      have hy := hx0.trans hE
      obtain ⟨g0, g1, g2⟩ := Hcells.out wr hE
      have C2 := Lib.hid (fun W (hW : Ext w W) => itoa_nat n (by omega) W (ht.ext hW))
      have hsz : (⟨(Lib.decDigits n).toArray⟩ : ByteArray).size = (Lib.decDigits n).length := numB_size _
      have hs3 := dec_le n (by omega)
      obtain ⟨u, hu⟩ : ∃ u : ByteArray, (⟨(Lib.decDigits n).toArray⟩ : ByteArray) = u := ⟨_, rfl⟩
      rw [hu] at C2 hsz
      have Hu := Lib.hid hu
      have hu3 : u.size ≤ 3 := by omega
      have hS : (u ++ ⟨#[32]⟩ ++ k ++ ⟨#[61]⟩ ++ v ++ ⟨#[10]⟩).size = (Lib.decDigits n).length + b := by rw [← hu, recAny_size, Hb.out]
      by_cases hlt : n < recN b
      · have hne : Hid (((u ++ ⟨#[32]⟩ ++ k ++ ⟨#[61]⟩ ++ v ++ ⟨#[10]⟩).size : Int) ≠ (n : Int)) := Lib.hid (by
          have := hfirst.out n hlt
          rw [hS]
          omega)
        clear hu hsz hs3 hS
        go_wp2_with fail
        refine wp_region_det (Stood _) (by kernel_rfl) (by kernel_rfl) (Stood.start _) ?_
        repeat (first
          | (refine det_skip (by rfl) ?_; simp only [Act.put, List.setIfInBounds_toArray, List.set_cons_zero, List.set_cons_succ])
          | (refine det_op (v := ?_) rfl (by rfl) (fun w' hS => ?_) ?_; rotate_left; (focus (obtain ⟨hcl, hxt⟩ := hS; go_wp2_with (first | ((with_reducible refine (C2.out _ (Ext.trans hy hxt)).mono ?_); rintro e w1 ⟨rfl, hx1⟩)); (first | refine ⟨?_, rfl, hcl, hxt⟩ | refine ⟨?_, rfl, Stood.of (hxt.trans (by assumption))⟩); (first | (simp only [List.getElem?_toArray, List.getElem?_cons_succ, List.getElem?_cons_zero]; rfl) | rfl))); simp only [Act.put, List.setIfInBounds_toArray, List.set_cons_zero, List.set_cons_succ]))
        refine det_end ?_
        intro w2 hS
        have hx2 := hS.2
        clear hS
        generalize u ++ ⟨#[32]⟩ ++ k ++ ⟨#[61]⟩ ++ v ++ ⟨#[10]⟩ = cat at *
        have hq : ((cat.size : Int) == (n : Int)) = false := by rw [beq_eq_false_iff_ne]; exact hne.out
        go_wp2_with fail
        go_roundw
        case rel => exact ⟨n + 1, by omega, hlt, by go_num, hE.trans hx2⟩
        case measure => simp [intOf]; omega
      · obtain rfl : n = recN b := by omega
        have heq : Hid (((u ++ ⟨#[32]⟩ ++ k ++ ⟨#[61]⟩ ++ v ++ ⟨#[10]⟩).size : Int) = ((recN b : Nat) : Int)) := Lib.hid (by
          have := hfix.out
          rw [hS, this]
          unfold recN
          omega)
        have efin : Hid (u ++ ⟨#[32]⟩ ++ k ++ ⟨#[61]⟩ ++ v ++ ⟨#[10]⟩ = recB k v) := Lib.hid (by rw [hrec.out, Hu.out])
        clear hu hsz hs3 hS hlt hn1 hn2
        go_wp2_with fail
        refine wp_region_det (Stood _) (by kernel_rfl) (by kernel_rfl) (Stood.start _) ?_
        repeat (first
          | (refine det_skip (by rfl) ?_; simp only [Act.put, List.setIfInBounds_toArray, List.set_cons_zero, List.set_cons_succ])
          | (refine det_op (v := ?_) rfl (by rfl) (fun w' hS => ?_) ?_; rotate_left; (focus (obtain ⟨hcl, hxt⟩ := hS; go_wp2_with (first | ((with_reducible refine (C2.out _ (Ext.trans hy hxt)).mono ?_); rintro e w1 ⟨rfl, hx1⟩)); (first | refine ⟨?_, rfl, hcl, hxt⟩ | refine ⟨?_, rfl, Stood.of (hxt.trans (by assumption))⟩); (first | (simp only [List.getElem?_toArray, List.getElem?_cons_succ, List.getElem?_cons_zero]; rfl) | rfl))); simp only [Act.put, List.setIfInBounds_toArray, List.set_cons_zero, List.set_cons_succ]))
        refine det_end ?_
        intro w2 hS
        have hx2 := hS.2
        clear hS
        generalize u ++ ⟨#[32]⟩ ++ k ++ ⟨#[61]⟩ ++ v ++ ⟨#[10]⟩ = cat at *
        generalize recN b = n at *
        have hq : ((cat.size : Int) == (n : Int)) = true := by rw [beq_iff_eq]; exact heq.out
        go_wp2_with fail
        go_ret2
        exact ⟨ret_val (by rw [hv.out.1, hv.out.2, ← efin.out]; rfl), hy.trans hx2⟩
end Go.Proofs.YtbofobakphlpbaaDoor
