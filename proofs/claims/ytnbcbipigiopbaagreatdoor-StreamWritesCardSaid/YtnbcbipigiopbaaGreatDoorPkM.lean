/-
  strconv.Itoa: what it reads of the library, and its contract in the seat's own words.
-/
import Derived.Test.YtnbcbipigiopbaaGreatDoorPkA
import Derived.Test.YtnbcbipigiopbaaGreatDoorShelf
import Derived.Lib.LaidTab
import Derived.Test.YtnbcbipigiopbaaGreatDoorPkK
import Derived.Test.YtnbcbipigiopbaaGreatDoorPkC
import Derived.Test.YtnbcbipigiopbaaGreatDoorPkH
namespace Go.Proofs.YtnbcbipigiopbaaGreatDoor
open Go.RowKit

/-- The library's powers of ten lie as they must. -/
def HasPow (w : World) : Prop := Lib.TabIs Tryz.prog w "internal/strconv.uint64pow10" .u64 Lib.pow10Tab
theorem powNamed : Tryz.prog.globalNamed "internal/strconv.uint64pow10" = some 2 := by kernel_rfl
theorem HasPow.ext {w w' : World} (h : HasPow w) (hE : Ext w w') : HasPow w' := by
  have hg : 2 < w.heap.size := by
    rcases Nat.lt_or_ge 2 w.heap.size with h1 | h1
    · exact h1
    · unfold HasPow Lib.TabIs World.var? at h
      rw [powNamed, Option.bind_some, Array.getElem?_eq_none h1] at h
      cases h
  have hb : w'.heap[2]? = w.heap[2]? := hE.below.block _ hg
  unfold HasPow Lib.TabIs World.var? at h ⊢
  rw [powNamed, Option.bind_some] at h ⊢
  rw [hb]
  exact h
theorem ext_grow {w w' : World} (h : ∃ k os, w' = Sort.grow (w.drewN k) os) : Ext w w' := by
  obtain ⟨k, os, rfl⟩ := h
  refine ⟨rfl, rfl, rfl, by simp [Sort.grow], fun b hb => ?_⟩
  simp only [Sort.grow, World.drewN]
  rw [Array.getElem?_append_left hb]
theorem itoa_any (n : Int) (h0 : -9223372036854775808 ≤ n) (h1 : n ≤ 9223372036854775807) (w : World) (ht : HasPow w) :
    Calls Tryz.prog 81 #[.int .i64 n] w fun e w' => e = .returned (.string ⟨(Lib.itoa n).toArray⟩) ∧ Ext w w' :=
  (Tryz.strconv_Itoa n h0 h1 w ht).mono fun _ _ ⟨h, k⟩ => ⟨h, ext_grow k⟩
theorem itoa_nat (n : Nat) (h1 : n ≤ 9223372036854775807) (w : World) (ht : HasPow w) :
    Calls Tryz.prog 81 #[.int .i64 (n : Int)] w fun e w' => e = .returned (.string ⟨(Lib.decDigits n).toArray⟩) ∧ Ext w w' := by
  have := itoa_any n (by omega) (by omega) w ht
  rw [Lib.itoa_nonneg] at this
  exact this
theorem dec_len (n : Nat) (h : n < 1000) : (Lib.decDigits n).length = if n < 10 then 1 else if n < 100 then 2 else 3 := by
  rw [Lib.decDigits_length]
  split
  · rw [Lib.nDigits_small ‹_›]
  · rw [Lib.nDigits_big ‹_›]
    split
    · rw [Lib.nDigits_small (by omega)]
    · rw [Lib.nDigits_big (by omega), Lib.nDigits_small (by omega)]
theorem pow_of_laid {rest : List (String × DataW Unit)} {W : World} (h : laidMet Tryz.prog (("internal/strconv.uint64pow10", Lib.tabData .u64 Lib.pow10Tab) :: rest) W) : HasPow W :=
  Lib.tabIs_of_head powNamed (t := 231) (e := 151) (n := 20) (by kernel_rfl) Tryz.underlying231 Tryz.underlying151 (by kernel_rfl) (by kernel_rfl) h
end Go.Proofs.YtnbcbipigiopbaaGreatDoor
/-
  The record of a pair, in plain words. No program, no conditions.
-/
namespace Go.Proofs.YtnbcbipigiopbaaGreatDoor
open Go.RowKit

/-- How many digits the length of a record has, all but them given; the length. -/
def dN (b : Nat) : Nat := if b ≤ 8 then 1 else if b ≤ 97 then 2 else 3
def recN (b : Nat) : Nat := b + dN b
theorem dN_fix (b : Nat) (h : b ≤ 990) : (Lib.decDigits (recN b)).length = dN b := by
  unfold recN dN
  rw [dec_len _ (by split <;> (try split) <;> omega)]
  by_cases h1 : b ≤ 8
  · rw [if_pos h1, if_pos (by omega)]
  · rw [if_neg h1]
    by_cases h2 : b ≤ 97
    · rw [if_pos h2, if_neg (by omega), if_pos (by omega)]
    · rw [if_neg h2, if_neg (by omega), if_neg (by omega)]
theorem dN_first (b d : Nat) (h : b ≤ 990) (h0 : 1 ≤ d) (hd : d < dN b) : (Lib.decDigits (b + d)).length ≠ d := by
  have h3 : dN b ≤ 3 := by unfold dN; split <;> (try split) <;> omega
  have h4 : d < 3 := by omega
  unfold dN at hd
  rw [dec_len _ (by omega)]
  by_cases h1 : b ≤ 8
  · rw [if_pos h1] at hd; omega
  · rw [if_neg h1] at hd
    by_cases h2 : b ≤ 97
    · rw [if_pos h2] at hd
      split <;> (try split) <;> omega
    · rw [if_neg h2] at hd
      split <;> (try split) <;> omega
theorem recN_first (b n : Nat) (h : b ≤ 990) (hn : n < recN b) : (Lib.decDigits n).length + b ≠ n := by
  have h3 : dN b ≤ 3 := by unfold dN; split <;> (try split) <;> omega
  intro e
  have h1 : 1 ≤ (Lib.decDigits n).length := by rw [Lib.decDigits_length]; exact Lib.nDigits_pos n
  unfold recN at hn
  refine dN_first b (Lib.decDigits n).length h h1 (by omega) ?_
  rw [show b + (Lib.decDigits n).length = n by omega]
/-- The bytes of a record without its number. -/
def tailB (k v : ByteArray) : ByteArray := ⟨#[32]⟩ ++ k ++ ⟨#[61]⟩ ++ v ++ ⟨#[10]⟩
/-- A record. -/
def recB (k v : ByteArray) : ByteArray := (⟨(Lib.decDigits (recN (k.size + v.size + 3))).toArray⟩ : ByteArray) ++ ⟨#[32]⟩ ++ k ++ ⟨#[61]⟩ ++ v ++ ⟨#[10]⟩
theorem numB_size (n : Nat) : (⟨(Lib.decDigits n).toArray⟩ : ByteArray).size = (Lib.decDigits n).length := by
  show (Lib.decDigits n).toArray.size = _
  simp
theorem recAny_size (l : List UInt8) (k v : ByteArray) : ((⟨l.toArray⟩ : ByteArray) ++ ⟨#[32]⟩ ++ k ++ ⟨#[61]⟩ ++ v ++ ⟨#[10]⟩).size = l.length + (k.size + v.size + 3) := by
  simp only [ByteArray.size_append]
  have h1 : (⟨#[32]⟩ : ByteArray).size = 1 := rfl
  have h2 : (⟨#[61]⟩ : ByteArray).size = 1 := rfl
  have h3 : (⟨#[10]⟩ : ByteArray).size = 1 := rfl
  have h4 : (⟨l.toArray⟩ : ByteArray).size = l.length := by show l.toArray.size = _; simp
  omega
theorem recB_size (k v : ByteArray) (h : k.size + v.size ≤ 500) : (recB k v).size = recN (k.size + v.size + 3) := by
  unfold recB
  rw [recAny_size, dN_fix _ (by omega)]
  unfold recN
  omega
end Go.Proofs.YtnbcbipigiopbaaGreatDoor
/-
  Records: pax.text, pax.Record, the reference's Record.
-/
namespace Go.Proofs.YtnbcbipigiopbaaGreatDoor
open Go.RowKit

theorem dec_le (n : Nat) (h : n < 1000) : (Lib.decDigits n).length ≤ 3 := by
  rw [dec_len n h]
  split <;> (try split) <;> omega

set_option maxHeartbeats 4000000 in
set_option maxRecDepth 100000 in
theorem paxText_any (k v : ByteArray) (hl : k.size + v.size ≤ 500) (w : World) (ht : HasPow w) : Calls Tryz.prog 57 #[.agg #[.string k, .string v]] w fun e w' => e = .returned (.string (recB k v)) ∧ Ext w w' := by
  obtain ⟨b, hb⟩ : ∃ b : Nat, b = k.size + v.size + 3 := ⟨_, rfl⟩
  have hbi : (k.size : Int) + v.size + 3 = (b : Int) := by omega
  have hb9 : b ≤ 503 := by omega
  have hx0 : Ext w (w.alloc (.cells #[.string k, .string v] 53)) := (Ext.refl w).alloc _
  have hcells : ∀ W : World, Ext (w.alloc (.cells #[.string k, .string v] 53)) W → W.cell? ⟨w.heap.size, 0, none⟩ = some (.string k) ∧ W.cell? ⟨w.heap.size, 1, none⟩ = some (.string v) ∧ w.heap.size < W.heap.size := fun W hW => by
    have h1 := hW.cell (show (w.alloc (.cells #[.string k, .string v] 53)).cell? ⟨w.heap.size, 0, none⟩ = some (.string k) by simp)
    have h2 := hW.cell (show (w.alloc (.cells #[.string k, .string v] 53)).cell? ⟨w.heap.size, 1, none⟩ = some (.string v) by simp)
    exact ⟨h1, h2, World.block_lt_of_cell? W _ h1⟩
  have Hcells := Lib.hid hcells
  have hrec : Hid (recB k v = (⟨(Lib.decDigits (b + dN b)).toArray⟩ : ByteArray) ++ ⟨#[32]⟩ ++ k ++ ⟨#[61]⟩ ++ v ++ ⟨#[10]⟩) := Lib.hid (by unfold recB recN; rw [hb])
  have hd3 : dN b ≤ 3 := by unfold dN; split <;> (try split) <;> omega
  have hd1 : 1 ≤ dN b := by unfold dN; split <;> (try split) <;> omega
  have hfix := Lib.hid (dN_fix b (by omega))
  have hfirst := Lib.hid (fun d h0 hd => dN_first b d (by omega) h0 hd)
  have hk5 : k.size ≤ 500 := by omega
  have hv5 : v.size ≤ 500 := by omega
  have Hb := Lib.hid hb
  clear hcells hb hl
  go_enter Tryz.func57, Tryz.ntmps57
  go_wp2_with fail
  go_loopw [4] (fun d wr => ∃ n : Nat, 1 ≤ n ∧ n ≤ dN b ∧ d = .int .i64 (n : Int) ∧ Ext (w.alloc (.cells #[.string k, .string v] 53)) wr) (fun d _ => (4 - intOf d).toNat)
  case atStart => exact ⟨1, by omega, hd1, rfl, Ext.refl _⟩
  case round =>
    obtain ⟨n, hn1, hn2, rfl, hE⟩ := hrel
    have hy := hx0.trans hE
    have C1 := Lib.hid (fun w ht => itoa_nat (b + n) (by omega) w ht)
    have ec : ((b + n : Nat) : Int) = (b : Int) + (n : Int) := by omega
    rw [ec] at C1
    clear ec
    have hsz : (⟨(Lib.decDigits (b + n)).toArray⟩ : ByteArray).size = (Lib.decDigits (b + n)).length := numB_size _
    have hs3 := dec_le (b + n) (by omega)
    obtain ⟨u, hu⟩ : ∃ u : ByteArray, (⟨(Lib.decDigits (b + n)).toArray⟩ : ByteArray) = u := ⟨_, rfl⟩
    rw [hu] at C1 hsz
    have Hu := Lib.hid hu
    have hu3 : u.size ≤ 3 := by omega
    by_cases hlt : n < dN b
    · have hne : ((u.size : Int) != (n : Int)) = true := by
        have := hfirst.out n hn1 hlt
        simp
        omega
      clear hu hsz hs3
      go_wp2_with fail
      refine (C1.out _ (ht.ext hy)).mono ?_; rintro e w1 ⟨rfl, hx1⟩
      go_wp2_with fail
      go_roundw
      case rel => exact ⟨n + 1, by omega, hlt, by go_num, hE.trans hx1⟩
      case measure => simp [intOf]; omega
    · obtain rfl : n = dN b := by omega
      have hne : ((u.size : Int) != ((dN b : Nat) : Int)) = false := by
        have := hfix.out
        unfold recN at this
        simp
        omega
      have efin : Hid (u ++ ⟨#[32]⟩ ++ k ++ ⟨#[61]⟩ ++ v ++ ⟨#[10]⟩ = recB k v) := Lib.hid (by rw [hrec.out, Hu.out])
      have C2 := Lib.hid (fun W (hW : Ext w W) => C1.out W (ht.ext hW))
      have s1 : (⟨#[32]⟩ : ByteArray).size ≤ 1 := Nat.le_refl _
      clear hu hsz hs3 hlt hn1 hn2
      generalize dN b = n at *
      go_wp2_with fail
      refine (C1.out _ (ht.ext hy)).mono ?_; rintro e w1 ⟨rfl, hx1⟩
      have hE1 := hE.trans hx1
      have hy1 := hx0.trans hE1
      obtain ⟨g0, g1, g2⟩ := Hcells.out w1 hE1
      go_wp2_with fail
      refine wp_region_det (Stood _) (by kernel_rfl) (by kernel_rfl) (Stood.start _) ?_
      repeat (first
        | (refine det_skip (by rfl) ?_; simp only [Act.put, List.setIfInBounds_toArray, List.set_cons_zero, List.set_cons_succ])
        | (refine det_op (v := ?_) rfl (by rfl) (fun w' hS => ?_) ?_; rotate_left; (focus (obtain ⟨hcl, hxt⟩ := hS; go_wp2_with (first | ((with_reducible refine (C2.out _ (Ext.trans hy1 hxt)).mono ?_); rintro e w1 ⟨rfl, hx1⟩)); (first | refine ⟨?_, rfl, hcl, hxt⟩ | refine ⟨?_, rfl, Stood.of (hxt.trans (by assumption))⟩); (first | (simp only [List.getElem?_toArray, List.getElem?_cons_succ, List.getElem?_cons_zero]; rfl) | rfl))); simp only [Act.put, List.setIfInBounds_toArray, List.set_cons_zero, List.set_cons_succ]))
      refine det_end ?_
      intro w2 hS
      have hx2 := hS.2
      clear hS
      go_wp2_with fail
      go_ret
      exact ⟨ret_val (by rw [← efin.out]; rfl), hy1.trans hx2⟩
end Go.Proofs.YtnbcbipigiopbaaGreatDoor
/-
  pax.Record and the reference's Record.
-/
namespace Go.Proofs.YtnbcbipigiopbaaGreatDoor
open Go.RowKit

/-- The record of a pair, and the error. -/
def recV (k v : ByteArray) : ByteArray := if pairB k v then recB k v else ⟨#[]⟩
def recE (k v : ByteArray) : Int := if pairB k v then 0 else 1
theorem pairB_len {k v : ByteArray} (h : pairB k v = true) : k.size + v.size ≤ 200 := by
  unfold pairB at h
  simp only [Bool.and_eq_true, decide_eq_true_eq] at h
  omega

set_option maxHeartbeats 4000000 in
set_option maxRecDepth 100000 in
theorem refRecord_any (k v : ByteArray) (hl : k.size + v.size ≤ 900) (w : World) (ht : HasPow w) : Calls Tryz.prog 47 #[.agg #[.string k, .string v]] w fun e w' => e = .returned (.tuple #[.string (recV k v), .int .i64 (recE k v)]) ∧ Ext w w' := by
  have C1 := Lib.hid (fun w => pairRight_any k v (by omega) (by omega) w)
  have hx0 : Ext w (w.alloc (.cells #[.string k, .string v] 53)) := (Ext.refl w).alloc _
  have hcells : ∀ W : World, Ext (w.alloc (.cells #[.string k, .string v] 53)) W → W.cell? ⟨w.heap.size, 0, none⟩ = some (.string k) ∧ W.cell? ⟨w.heap.size, 1, none⟩ = some (.string v) ∧ w.heap.size < W.heap.size := fun W hW => by
    have h1 := hW.cell (show (w.alloc (.cells #[.string k, .string v] 53)).cell? ⟨w.heap.size, 0, none⟩ = some (.string k) by simp)
    have h2 := hW.cell (show (w.alloc (.cells #[.string k, .string v] 53)).cell? ⟨w.heap.size, 1, none⟩ = some (.string v) by simp)
    exact ⟨h1, h2, World.block_lt_of_cell? W _ h1⟩
  have Hcells := Lib.hid hcells
  have hv : Hid (recV k v = (if pairB k v then recB k v else ⟨#[]⟩) ∧ recE k v = if pairB k v then 0 else 1) := Lib.hid ⟨rfl, rfl⟩
  obtain ⟨b, hb⟩ : ∃ b : Nat, b = k.size + v.size + 3 := ⟨_, rfl⟩
  have hrec : Hid (recB k v = (⟨(Lib.decDigits (recN b)).toArray⟩ : ByteArray) ++ ⟨#[32]⟩ ++ k ++ ⟨#[61]⟩ ++ v ++ ⟨#[10]⟩) := Lib.hid (by unfold recB; rw [hb])
  have hd3 : dN b ≤ 3 := by unfold dN; split <;> (try split) <;> omega
  have hd1 : 1 ≤ dN b := by unfold dN; split <;> (try split) <;> omega
  have hr1 : recN b ≤ 910 := by unfold recN; omega
  have hr0 : 1 ≤ recN b := by unfold recN; omega
  have hfix := Lib.hid (dN_fix b (by omega))
  have hfirst := Lib.hid (fun n hn => recN_first b n (by omega) hn)
  have hk5 : k.size ≤ 900 := by omega
  have hv5 : v.size ≤ 900 := by omega
  have Hb := Lib.hid hb
  clear hcells hl hb hd3 hd1
  generalize pairB k v = p at *
  cases p
  · go_enter Tryz.func47, Tryz.ntmps47
    go_wp2_with fail
    refine (C1.out _).mono ?_; rintro e w1 ⟨rfl, hx1⟩
    go_wp2_with fail
    go_ret2
    exact ⟨ret_val (by rw [hv.out.1, hv.out.2]; rfl), hx0.trans hx1⟩
  · go_enter Tryz.func47, Tryz.ntmps47
    go_wp2_with fail
    refine (C1.out _).mono ?_; rintro e w1 ⟨rfl, hx1⟩
    go_wp2_with fail
    go_loopw [4] (fun d wr => ∃ n : Nat, 1 ≤ n ∧ n ≤ recN b ∧ d = .int .i64 (n : Int) ∧ Ext (w.alloc (.cells #[.string k, .string v] 53)) wr) (fun d _ => (recN b + 1 - intOf d).toNat)
    case atStart => exact ⟨1, by omega, hr0, rfl, hx1⟩
    case round =>
      obtain ⟨n, hn1, hn2, rfl, hE⟩ := hrel
      have hy := hx0.trans hE
      obtain ⟨g0, g1, g2⟩ := Hcells.out wr hE
      have C2 := Lib.hid (fun W (hW : Ext w W) => itoa_nat n (by omega) W (ht.ext hW))
      have hsz : (⟨(Lib.decDigits n).toArray⟩ : ByteArray).size = (Lib.decDigits n).length := numB_size _
      have hs3 := dec_le n (by omega)
      obtain ⟨u, hu⟩ : ∃ u : ByteArray, (⟨(Lib.decDigits n).toArray⟩ : ByteArray) = u := ⟨_, rfl⟩
      rw [hu] at C2 hsz
      have Hu := Lib.hid hu
      have hu3 : u.size ≤ 3 := by omega
      have hS : (u ++ ⟨#[32]⟩ ++ k ++ ⟨#[61]⟩ ++ v ++ ⟨#[10]⟩).size = (Lib.decDigits n).length + b := by rw [← hu, recAny_size, Hb.out]
      by_cases hlt : n < recN b
      · have hne : Hid (((u ++ ⟨#[32]⟩ ++ k ++ ⟨#[61]⟩ ++ v ++ ⟨#[10]⟩).size : Int) ≠ (n : Int)) := Lib.hid (by
          have := hfirst.out n hlt
          rw [hS]
          omega)
        clear hu hsz hs3 hS
        go_wp2_with fail
        refine wp_region_det (Stood _) (by kernel_rfl) (by kernel_rfl) (Stood.start _) ?_
        repeat (first
          | (refine det_skip (by rfl) ?_; simp only [Act.put, List.setIfInBounds_toArray, List.set_cons_zero, List.set_cons_succ])
          | (refine det_op (v := ?_) rfl (by rfl) (fun w' hS => ?_) ?_; rotate_left; (focus (obtain ⟨hcl, hxt⟩ := hS; go_wp2_with (first | ((with_reducible refine (C2.out _ (Ext.trans hy hxt)).mono ?_); rintro e w1 ⟨rfl, hx1⟩)); (first | refine ⟨?_, rfl, hcl, hxt⟩ | refine ⟨?_, rfl, Stood.of (hxt.trans (by assumption))⟩); (first | (simp only [List.getElem?_toArray, List.getElem?_cons_succ, List.getElem?_cons_zero]; rfl) | rfl))); simp only [Act.put, List.setIfInBounds_toArray, List.set_cons_zero, List.set_cons_succ]))
        refine det_end ?_
        intro w2 hS
        have hx2 := hS.2
        clear hS
        generalize u ++ ⟨#[32]⟩ ++ k ++ ⟨#[61]⟩ ++ v ++ ⟨#[10]⟩ = cat at *
        have hq : ((cat.size : Int) == (n : Int)) = false := by rw [beq_eq_false_iff_ne]; exact hne.out
        go_wp2_with fail
        go_roundw
        case rel => exact ⟨n + 1, by omega, hlt, by go_num, hE.trans hx2⟩
        case measure => simp [intOf]; omega
      · obtain rfl : n = recN b := by omega
        have heq : Hid (((u ++ ⟨#[32]⟩ ++ k ++ ⟨#[61]⟩ ++ v ++ ⟨#[10]⟩).size : Int) = ((recN b : Nat) : Int)) := Lib.hid (by
          have := hfix.out
          rw [hS, this]
          unfold recN
          omega)
        have efin : Hid (u ++ ⟨#[32]⟩ ++ k ++ ⟨#[61]⟩ ++ v ++ ⟨#[10]⟩ = recB k v) := Lib.hid (by rw [hrec.out, Hu.out])
        clear hu hsz hs3 hS hlt hn1 hn2
        go_wp2_with fail
        refine wp_region_det (Stood _) (by kernel_rfl) (by kernel_rfl) (Stood.start _) ?_
        repeat (first
          | (refine det_skip (by rfl) ?_; simp only [Act.put, List.setIfInBounds_toArray, List.set_cons_zero, List.set_cons_succ])
          | (refine det_op (v := ?_) rfl (by rfl) (fun w' hS => ?_) ?_; rotate_left; (focus (obtain ⟨hcl, hxt⟩ := hS; go_wp2_with (first | ((with_reducible refine (C2.out _ (Ext.trans hy hxt)).mono ?_); rintro e w1 ⟨rfl, hx1⟩)); (first | refine ⟨?_, rfl, hcl, hxt⟩ | refine ⟨?_, rfl, Stood.of (hxt.trans (by assumption))⟩); (first | (simp only [List.getElem?_toArray, List.getElem?_cons_succ, List.getElem?_cons_zero]; rfl) | rfl))); simp only [Act.put, List.setIfInBounds_toArray, List.set_cons_zero, List.set_cons_succ]))
        refine det_end ?_
        intro w2 hS
        have hx2 := hS.2
        clear hS
        generalize u ++ ⟨#[32]⟩ ++ k ++ ⟨#[61]⟩ ++ v ++ ⟨#[10]⟩ = cat at *
        generalize recN b = n at *
        have hq : ((cat.size : Int) == (n : Int)) = true := by rw [beq_iff_eq]; exact heq.out
        go_wp2_with fail
        go_ret2
        exact ⟨ret_val (by rw [hv.out.1, hv.out.2, ← efin.out]; rfl), hy.trans hx2⟩
end Go.Proofs.YtnbcbipigiopbaaGreatDoor
/-
  A time in decimal, in plain words. No program, no conditions.
-/
namespace Go.Proofs.YtnbcbipigiopbaaGreatDoor
open Go.RowKit

/-- A number below 10^9 in nine digits. -/
def pad9 (p : Nat) : List UInt8 := (List.range 9).map fun t => Lib.dg p (8 - t)
theorem pad9_len (p : Nat) : (pad9 p).length = 9 := by simp [pad9]
theorem pad9_get (p t : Nat) (h : t < (pad9 p).length) : (pad9 p)[t] = Lib.dg p (8 - t) := by simp [pad9]
theorem dg_high (p j : Nat) (hj : j ≤ 8) : Lib.dg (1000000000 + p) j = Lib.dg p j := by
  unfold Lib.dg
  have e : (1000000000 + p) / 10 ^ j % 10 = p / 10 ^ j % 10 := by
    rcases (show j = 0 ∨ j = 1 ∨ j = 2 ∨ j = 3 ∨ j = 4 ∨ j = 5 ∨ j = 6 ∨ j = 7 ∨ j = 8 by omega) with rfl | rfl | rfl | rfl | rfl | rfl | rfl | rfl | rfl
    all_goals
      simp only [Nat.reducePow]
      omega
  rw [e]
theorem dg_one (p : Nat) (h : p < 1000000000) : Lib.dg (1000000000 + p) 9 = 49 := by
  unfold Lib.dg
  have e : (1000000000 + p) / 10 ^ 9 % 10 = 1 := by
    simp only [Nat.reducePow]
    omega
  rw [e]
  rfl
theorem dec_pad (p : Nat) (h : p < 1000000000) : Lib.decDigits (1000000000 + p) = 49 :: pad9 p := by
  have hn : Lib.nDigits (1000000000 + p) = 10 := Lib.nDigits_unique 9 _ (by simp only [Nat.reducePow]; omega) (by simp only [Nat.reducePow, Nat.reduceAdd]; omega)
  rw [Lib.decDigits_eq, hn, List.range_succ_eq_map, List.map_cons, List.map_map]
  congr 1
  · exact dg_one p h
  · unfold pad9
    refine List.map_congr_left fun t ht => ?_
    have ht' : t < 9 := List.mem_range.1 ht
    show Lib.dg (1000000000 + p) (10 - 1 - (t + 1)) = _
    rw [show 10 - 1 - (t + 1) = 8 - t by omega]
    exact dg_high p _ (by omega)
theorem nDigits_le : ∀ (k u : Nat), u < 10 ^ (k + 1) → Lib.nDigits u ≤ k + 1
  | 0, u, h => by rw [Lib.nDigits_small (by simpa using h)]; omega
  | k + 1, u, h => by
    by_cases h0 : u < 10
    · rw [Lib.nDigits_small h0]; omega
    · rw [Lib.nDigits_big h0]
      have := nDigits_le k (u / 10) (by rw [Nat.pow_succ] at h; omega)
      omega
theorem itoa_size (n : Int) (h0 : -9999999999999 ≤ n) (h1 : n ≤ 9999999999999) : (⟨(Lib.itoa n).toArray⟩ : ByteArray).size ≤ 14 := by
  show (Lib.itoa n).toArray.size ≤ 14
  unfold Lib.itoa
  split
  · have := nDigits_le 12 n.natAbs (by simp only [Nat.reducePow, Nat.reduceAdd]; omega)
    simp [Lib.decDigits_length]; omega
  · have := nDigits_le 12 n.toNat (by simp only [Nat.reducePow, Nat.reduceAdd]; omega)
    simp [Lib.decDigits_length]; omega
theorem dec_zeros (p : Nat) (h : p < 1000000000) : List.replicate (9 - (Lib.decDigits p).length) 48 ++ Lib.decDigits p = pad9 p := by
  have hn := nDigits_le 8 p (by simpa using h)
  have hp := Lib.lt_pow_nDigits p
  rw [Lib.decDigits_length, Lib.decDigits_eq]
  generalize Lib.nDigits p = n at *
  apply List.ext_getElem
  · simp [pad9]; omega
  · intro t h1 h2
    have ht : t < 9 := by simpa [pad9] using h2
    rw [pad9_get]
    by_cases hl : t < 9 - n
    · rw [List.getElem_append_left (by simpa using hl), List.getElem_replicate]
      have e : p / 10 ^ (8 - t) = 0 := Nat.div_eq_of_lt (Nat.lt_of_lt_of_le hp (Nat.pow_le_pow_right (by decide) (by omega)))
      unfold Lib.dg
      rw [e]
      rfl
    · rw [List.getElem_append_right (by simpa using hl)]
      simp only [List.getElem_map, List.getElem_range, List.length_replicate]
      congr 1
      omega

theorem itoa_pad (p : Int) (h0 : 0 ≤ p) (h : p < 1000000000) : Lib.itoa (1000000000 + p) = 49 :: pad9 p.toNat := by
  obtain ⟨k, rfl⟩ := Int.eq_ofNat_of_zero_le h0
  rw [show (1000000000 : Int) + (k : Int) = ((1000000000 + k : Nat) : Int) by omega, Lib.itoa_nonneg]
  exact dec_pad k (by omega)

/-- Without its zeros behind. -/
def trimZ (l : List UInt8) : List UInt8 := Lib.trimRightB l 48
theorem trimZ_step (l : List UInt8) : trimZ (l ++ [48]) = trimZ l := by simp [trimZ, Lib.trimRightB]
theorem trimZ_stop {l : List UInt8} (h : ∀ x, l.getLast? = some x → x ≠ 48) : trimZ l = l := by
  unfold trimZ Lib.trimRightB
  rcases List.eq_nil_or_concat l with rfl | ⟨t, x, rfl⟩
  · rfl
  · have hx : (x == 48) = false := by
      rw [beq_eq_false_iff_ne]
      exact h x (by simp)
    simp [hx]
theorem trimZ_zero : trimZ (pad9 0) = [] := by decide
theorem drop_all {p : UInt8 → Bool} : ∀ {l : List UInt8}, l.dropWhile p = [] → ∀ x ∈ l, p x = true
  | [], _, x, hx => by cases hx
  | y :: t, h, x, hx => by
    cases hy : p y with
    | false => rw [List.dropWhile_cons, hy] at h; cases h
    | true =>
      rw [List.dropWhile_cons, hy] at h
      rcases List.mem_cons.1 hx with rfl | h1
      · exact hy
      · exact drop_all h x h1
theorem zero_of_digits : ∀ (k p : Nat), p < 10 ^ k → (∀ j, j < k → p / 10 ^ j % 10 = 0) → p = 0
  | 0, p, h, _ => by simpa using h
  | k + 1, p, h, hd => by
    have h0 := hd 0 (by omega)
    rw [Nat.pow_zero, Nat.div_one] at h0
    have h1 := zero_of_digits k (p / 10) (by rw [Nat.pow_succ] at h; omega) (fun j hj => by
      rw [Nat.div_div_eq_div_mul, ← Nat.pow_succ']
      exact hd (j + 1) (by omega))
    omega
theorem digit_zero {q : Nat} (h9 : q < 10) (h : UInt8.ofNat (48 + q) = 48) : q = 0 := by
  have := congrArg UInt8.toNat h
  simp at this
  omega
theorem trimZ_pos (p : Nat) (h0 : 0 < p) (h : p < 1000000000) : trimZ (pad9 p) ≠ [] := by
  intro e
  have hz : ∀ x ∈ pad9 p, x = 48 := by
    unfold trimZ Lib.trimRightB at e
    have e' : (pad9 p).reverse.dropWhile (· == 48) = [] := by simpa using e
    intro x hx
    simpa using drop_all e' x (by simpa using hx)
  have hp := zero_of_digits 9 p (by simpa using h) fun j hj => by
    have hm : Lib.dg p j ∈ pad9 p := by
      unfold pad9
      rw [List.mem_map]
      exact ⟨8 - j, by simp; omega, by rw [show 8 - (8 - j) = j by omega]⟩
    exact digit_zero (Nat.mod_lt _ (by decide)) (hz _ hm)
  omega

/-- Whole seconds and the part behind the point, the sign aside. -/
def wholeT (ts tn : Int) : Int := if ts < 0 then (if 0 < tn then -ts - 1 else -ts) else ts
def partT (ts tn : Int) : Int := if ts < 0 ∧ 0 < tn then 1000000000 - tn else tn
def signT (ts : Int) : ByteArray := if ts < 0 then ⟨#[45]⟩ else ⟨#[]⟩
def tailT (p : Int) : ByteArray := if 0 < p then ⟨#[46]⟩ ++ ⟨(trimZ (pad9 p.toNat)).toArray⟩ else ⟨#[]⟩
/-- The text of a valid time; the error. -/
def textV (ts tn : Int) : ByteArray := if timeB ts tn then signT ts ++ ⟨(Lib.itoa (wholeT ts tn)).toArray⟩ ++ tailT (partT ts tn) else ⟨#[]⟩
def textE (ts tn : Int) : Int := if timeB ts tn then 0 else 1
end Go.Proofs.YtnbcbipigiopbaaGreatDoor
