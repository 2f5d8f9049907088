/-
  The reference's Get: its walk; the slice of no pairs.
-/
import Derived.Test.YtedcibjnnihhfaaGetW
namespace Go.Proofs.Ytedcibjnnihhfaa
open Go.RowKit Go.WideShapes Go.Shelf

theorem ref_none (w : World) (a : Option Addr) (c : Nat) (K X : Nat → ByteArray) (key : ByteArray) :
    Calls Try.prog 8 #[.slice a 0 c, .string key] w fun e w' => e = .returned (.tuple #[.string (getV K X key 0), .bool (!(getV K X key 0).toList.isEmpty)]) ∧ Ext w w' := by
  have e0 : Hid (getV K X key 0 = ⟨#[]⟩) := Lib.hid rfl
  rw [e0.out]
  go_enter Try.func8, Try.ntmps8
  go_wp2_with fail
  refine wp_loop_rounds 1 ?_
  rw [rounds_succ]
  go_wp2_with fail
  go_ret2
  exact ⟨ret_val (by simp), (by show Below _ _ _; repeat' (first | (with_reducible exact Below.refl _ _) | (with_reducible assumption) | (with_reducible refine belowDrewN ?_ _) | (with_reducible refine Below.alloc ?_ ?_ _) | (with_reducible refine Below.drew ?_) | (with_reducible refine Below.setCell ?_ ?_ _) | go_size))⟩

set_option maxHeartbeats 1600000 in
set_option maxRecDepth 100000 in
theorem ref_some (w : World) (b off n cap : Nat) (K X : Nat → ByteArray) (key : ByteArray) (hn : n ≤ 4398046511100)
    (hc : ∀ k, k < n → (K k).size ≤ 140737488351232 ∧ (X k).size ≤ 140737488351232 ∧ w.cell? ⟨b, off + k * 2, none⟩ = some (.string (K k)) ∧ w.cell? ⟨b, off + k * 2 + 1, none⟩ = some (.string (X k))) :
    Calls Try.prog 8 #[.slice (some ⟨b, off, none⟩) n cap, .string key] w fun e w' => e = .returned (.tuple #[.string (getV K X key n), .bool (!(getV K X key n).toList.isEmpty)]) ∧ Ext w w' := by
  have Hc := Lib.hid hc
  clear hc
  have h0 : Hid (getV K X key 0 = ⟨#[]⟩) := Lib.hid rfl
  have hs : Hid (∀ m, getV K X key (m + 1) = if (K m).toList == key.toList then X m else getV K X key m) := Lib.hid fun _ => rfl
  go_enter Try.func8, Try.ntmps8
  go_wp2_with fail
  go_loopw [6, 11] (fun v i wr => ∃ k : Nat, k ≤ n ∧ i = .int .i64 (k : Int) ∧ v = .string (getV K X key k) ∧ Ext w wr) (fun _ i _ => n - (intOf i).toNat)
  case atStart => exact ⟨0, by omega, rfl, by rw [h0.out], Ext.refl _⟩
  case round =>
    obtain ⟨k, hk, rfl, rfl, hE⟩ := hrel
    by_cases hlt : k < n
    · obtain ⟨_, _, c0, c1⟩ := Hc.out k hlt
      have g0 := hE.cell c0
      have g1 := hE.cell c1
      have hsk := Lib.hid (hs.out k)
      clear c0 c1
      cases hq : ((K k).toList == key.toList) with
      | true =>
        have HQ := Lib.hid hq
        go_wp2_with fail
        go_roundw
        case rel => exact ⟨k + 1, hlt, by go_num, by rw [hsk.out, if_pos HQ.out], hE.alloc _⟩
        case measure => simp [intOf]; omega
      | false =>
        have HQ := Lib.hid hq
        go_wp2_with fail
        go_roundw
        case rel => exact ⟨k + 1, hlt, by go_num, by rw [hsk.out, if_neg (by rw [HQ.out]; decide)], hE.alloc _⟩
        case measure => simp [intOf]; omega
    · obtain rfl : k = n := by omega
      go_wp2_with fail
      go_ret2
      exact ⟨ret_val (by simp), hE⟩
end Go.Proofs.Ytedcibjnnihhfaa
