/-
  Records: pax.text, pax.Record, the reference's Record.
-/
import Derived.Test.YtbofobakphlpbaaDoorPair
import Derived.Test.YtbofobakphlpbaaDoorPaxV
import Derived.Test.YtbofobakphlpbaaDoorBare
import Derived.Test.YtbofobakphlpbaaDoorDet
namespace Go.Proofs.YtbofobakphlpbaaDoor
open Go.RowKit

theorem dec_le (n : Nat) (h : n < 1000) : (Lib.decDigits n).length ≤ 3 := by
  rw [dec_len n h]
  split <;> (try split) <;> omega

set_option maxHeartbeats 4000000 in
set_option maxRecDepth 100000 in
theorem paxText_any (k v : ByteArray) (hl : k.size + v.size ≤ 500) (w : World) (ht : HasPow w) : Calls Tryd.prog 68 #[.agg #[.string k, .string v]] w fun e w' => e = .returned (.string (recB k v)) ∧ Ext w w' := by
  obtain ⟨b, hb⟩ : ∃ b : Nat, b = k.size + v.size + 3 := ⟨_, rfl⟩
  have hbi : (k.size : Int) + v.size + 3 = (b : Int) := by omega
  have hb9 : b ≤ 503 := by omega
  have hx0 : Ext w (w.alloc (.cells #[.string k, .string v] 84)) := (Ext.refl w).alloc _
  have hcells : ∀ W : World, Ext (w.alloc (.cells #[.string k, .string v] 84)) W → W.cell? ⟨w.heap.size, 0, none⟩ = some (.string k) ∧ W.cell? ⟨w.heap.size, 1, none⟩ = some (.string v) ∧ w.heap.size < W.heap.size := fun W hW => by
    have h1 := hW.cell (show (w.alloc (.cells #[.string k, .string v] 84)).cell? ⟨w.heap.size, 0, none⟩ = some (.string k) by simp)
    have h2 := hW.cell (show (w.alloc (.cells #[.string k, .string v] 84)).cell? ⟨w.heap.size, 1, none⟩ = some (.string v) by simp)
    exact ⟨h1, h2, World.block_lt_of_cell? W _ h1⟩
  have Hcells := Lib.hid hcells
  have hrec : Hid (recB k v = (⟨(Lib.decDigits (b + dN b)).toArray⟩ : ByteArray) ++ ⟨#[32]⟩ ++ k ++ ⟨#[61]⟩ ++ v ++ ⟨#[10]⟩) := Lib.hid (by unfold recB recN; rw [hb])
  have hd3 : dN b ≤ 3 := by unfold dN; split <;> (try split) <;> omega
  have hd1 : 1 ≤ dN b := by unfold dN; split <;> (try split) <;> omega
  have hfix := Lib.hid (dN_fix b (by omega))
  have hfirst := Lib.hid (fun d h0 hd => dN_first b d (by omega) h0 hd)
  have hk5 : k.size ≤ 500 := by omega
  have hv5 : v.size ≤ 500 := by omega
  have Hb := Lib.hid hb
  clear hcells hb hl
  go_enter Tryd.func68, Tryd.ntmps68
  go_wp2_with fail
  go_loopw [4] (fun d wr => ∃ n : Nat, 1 ≤ n ∧ n ≤ dN b ∧ d = .int .i64 (n : Int) ∧ Ext (w.alloc (.cells #[.string k, .string v] 84)) wr) (fun d _ => (4 - intOf d).toNat)
  case atStart => exact ⟨1, by omega, hd1, rfl, Ext.refl _⟩
  case round =>
    obtain ⟨n, hn1, hn2, rfl, hE⟩ := hrel
    have hy := hx0.trans hE
    have C1 := Lib.hid (fun w ht => itoa_nat (b + n) (by omega) w ht)
    have ec : ((b + n : Nat) : Int) = (b : Int) + (n : Int) := by omega
    rw [ec] at C1
    clear ec
    have hsz : (⟨(Lib.decDigits (b + n)).toArray⟩ : ByteArray).size = (Lib.decDigits (b + n)).length := numB_size _
    have hs3 := dec_le (b + n) (by omega)
    obtain ⟨u, hu⟩ : ∃ u : ByteArray, (⟨(Lib.decDigits (b + n)).toArray⟩ : ByteArray) = u := ⟨_, rfl⟩
    rw [hu] at C1 hsz
    have Hu := Lib.hid hu
    have hu3 : u.size ≤ 3 := by omega
    by_cases hlt : n < dN b
    · have hne : ((u.size : Int) != (n : Int)) = true := by
        have := hfirst.out n hn1 hlt
        simp
        omega
      clear hu hsz hs3
      go_wp2_with fail
      refine (C1.out _ (ht.ext hy)).mono ?_; rintro e w1 ⟨rfl, hx1⟩
      go_wp2_with fail
      go_roundw
      case rel => exact ⟨n + 1, by omega, hlt, by go_num, hE.trans hx1⟩
      case measure => simp [intOf]; omega
    · obtain rfl : n = dN b := by omega
      have hne : ((u.size : Int) != ((dN b : Nat) : Int)) = false := by
        have := hfix.out
        unfold recN at this
        simp
        omega
      have efin : Hid (u ++ ⟨#[32]⟩ ++ k ++ ⟨#[61]⟩ ++ v ++ ⟨#[10]⟩ = recB k v) := Lib.hid (by rw [hrec.out, Hu.out])
      have C2 := Lib.hid (fun W (hW : Ext w W) => C1.out W (ht.ext hW))
      have s1 : (⟨#[32]⟩ : ByteArray).size ≤ 1 := Nat.le_refl _
      clear hu hsz hs3 hlt hn1 hn2
      generalize dN b = n at *
      go_wp2_with fail
      refine (C1.out _ (ht.ext hy)).mono ?_; rintro e w1 ⟨rfl, hx1⟩
      have hE1 := hE.trans hx1
      have hy1 := hx0.trans hE1
      obtain ⟨g0, g1, g2⟩ := Hcells.out w1 hE1
      go_wp2_with fail
      refine wp_region_det (Stood _) (by kernel_rfl) (by kernel_rfl) (Stood.start _) ?_
      repeat (first
        | (refine det_skip (by rfl) ?_; simp only [Act.put, List.setIfInBounds_toArray, List.set_cons_zero, List.set_cons_succ])
        | (refine det_op (v := ?_) rfl (by rfl) (fun w' hS => ?_) ?_; rotate_left; (focus (obtain ⟨hcl, hxt⟩ := hS; go_wp2_with (first | ((with_reducible refine (C2.out _ (Ext.trans hy1 hxt)).mono ?_); rintro e w1 ⟨rfl, hx1⟩)); (first | refine ⟨?_, rfl, hcl, hxt⟩ | refine ⟨?_, rfl, Stood.of (hxt.trans (by assumption))⟩); (first | (simp only [List.getElem?_toArray, List.getElem?_cons_succ, List.getElem?_cons_zero]; rfl) | rfl))); simp only [Act.put, List.setIfInBounds_toArray, List.set_cons_zero, List.set_cons_succ]))
      refine det_end ?_
      intro w2 hS
      have hx2 := hS.2
      clear hS
      go_wp2_with fail
      go_ret
      exact ⟨ret_val (by rw [← efin.out]; rfl), hy1.trans hx2⟩
end Go.Proofs.YtbofobakphlpbaaDoor
