/-
  Contracts of hole.Take and of the reference's MapTake.
-/
import Derived.Test.YtioceakpmnhohaaDoorHole
import Derived.Test.YtioceakpmnhohaaDoorBare
namespace Go.Proofs.YtioceakpmnhohaaDoor
open Go.RowKit Go.WideShapes

theorem holeB_get {n k : Nat} {A S : Nat → Int} {size : Int} (h : holeB n A S size = true) (hk : k < n) : pieceB A S size k = true := by
  unfold holeB at h
  simp only [Bool.and_eq_true] at h
  exact List.all_eq_true.1 h.2 k (by simpa using hk)
theorem holeB_len {n : Nat} {A S : Nat → Int} {size : Int} (h : holeB n A S size = true) : n ≤ 20 := by
  unfold holeB at h
  simp only [Bool.and_eq_true] at h
  simpa using h.1.2

/-- The bytes of the first pieces. -/
def takeS (s : ByteArray) (A S : Nat → Int) : Nat → ByteArray
  | 0 => ⟨#[]⟩
  | k + 1 => takeS s A S k ++ s.extract (A k).toNat (A k + S k).toNat
theorem takeS_size (s : ByteArray) (A S : Nat → Int) : ∀ k, (takeS s A S k).size ≤ k * s.size
  | 0 => by rw [Nat.zero_mul]; exact Nat.le_refl 0
  | k + 1 => by
    have := takeS_size s A S k
    simp only [takeS, ByteArray.size_append, ByteArray.size_extract]
    rw [Nat.succ_mul]; omega
def takeV (s : ByteArray) (n : Nat) (A S : Nat → Int) : ByteArray := if holeB n A S s.size then takeS s A S n else ⟨#[]⟩
def takeE (s : ByteArray) (n : Nat) (A S : Nat → Int) : Int := if holeB n A S s.size then 0 else 1

set_option maxHeartbeats 1600000 in
set_option maxRecDepth 100000 in
theorem take_any (w : World) (s : ByteArray) (v : Value) (n : Nat) (A S : Nat → Int) (hs : s.size ≤ 600) (h : IsPieces w v n A S) :
    Calls Tryd.prog 15 #[.string s, v] w fun e w' => e = .returned (.tuple #[.string (takeV s n A S), errOf (takeE s n A S)]) ∧ Ext w w' := by
  have C1 := Lib.hid (holeRight_any w v n A S s.size (by omega) h)
  by_cases hB : holeB n A S s.size = true
  · have e1 : Hid (takeV s n A S = takeS s A S n) := Lib.hid (by unfold takeV; rw [if_pos hB])
    have e2 : Hid (errOf (takeE s n A S) = .nilIface) := Lib.hid (by unfold takeE; rw [if_pos hB]; rfl)
    have hn20 := holeB_len hB
    have hp := Lib.hid (fun k (hk : k < n) => piece_split (holeB_get hB hk))
    rw [hB] at C1
    clear hB
    rcases h with ⟨⟨a0, c0, rfl⟩, rfl⟩ | ⟨b, off, cap, rfl, hn, hc⟩
    · go_enter Tryd.func15, Tryd.ntmps15
      go_wp2_with ((refine (C1.out).mono ?_); rintro e w1 ⟨rfl, hx1⟩)
      refine wp_loop_rounds 1 ?_
      rw [rounds_succ]
      go_wp2_with fail
      go_ret2
      exact ⟨ret_val (by rw [e1.out, e2.out]; rfl), hx1⟩
    · have Hc := Lib.hid hc
      clear hc
      go_enter Tryd.func15, Tryd.ntmps15
      go_wp2_with ((refine (C1.out).mono ?_); rintro e w1 ⟨rfl, hx1⟩)
      go_loopw [6, 17] (fun out i wr => ∃ k : Nat, k ≤ n ∧ out = .string (takeS s A S k) ∧ i = .int .i64 (k : Int) ∧ Ext w wr) (fun _ i _ => (n - intOf i).toNat)
      case atStart => exact ⟨0, Nat.zero_le _, rfl, rfl, hx1⟩
      case round =>
        obtain ⟨k, hk, rfl, rfl, hE⟩ := hrel
        by_cases hlt : k < n
        · have g1 := hE.cell (Hc.out k hlt).1
          have g2 := hE.cell (Hc.out k hlt).2
          obtain ⟨d1, d2, d3, d4⟩ := hp.out k hlt
          have lb : b < wr.heap.size := World.block_lt_of_cell? wr _ g1
          have lb1 : b < wr.heap.size + 1 := by omega
          have z1 : (takeS s A S k).size ≤ 12000 := Nat.le_trans (takeS_size s A S k) (Nat.le_trans (Nat.mul_le_mul (show k ≤ 20 by omega) hs) (by decide))
          have q1 : A k ≤ A k + S k := by omega
          have q2 : A k + S k ≤ s.size := by omega
          have q3 : A k ≤ s.size := by omega
          go_wp2_with fail
          go_roundw
          case rel => exact ⟨k + 1, hlt, rfl, by go_num, hE.trans (by show Below _ _ _; repeat' (first | (with_reducible exact Below.refl _ _) | (with_reducible assumption) | (with_reducible refine belowDrewN ?_ _) | (with_reducible refine Below.alloc ?_ ?_ _) | (with_reducible refine Below.drew ?_) | (with_reducible refine Below.setCell ?_ ?_ _) | go_size))⟩
          case measure => simp [intOf]; omega
        · have hk1 : Hid (k = n) := Lib.hid (by omega)
          go_wp2_with fail
          go_ret2
          exact ⟨ret_val (by rw [e1.out, e2.out, hk1.out]; rfl), hE⟩
  · have hB' : holeB n A S s.size = false := by simpa using hB
    have e1 : Hid (takeV s n A S = ⟨#[]⟩) := Lib.hid (by unfold takeV; rw [if_neg hB])
    have e2 : Hid (errOf (takeE s n A S) = .iface 22 (.int .i64 1)) := Lib.hid (by unfold takeE; rw [if_neg hB]; rfl)
    rw [hB'] at C1
    clear hB hB' h
    go_enter Tryd.func15, Tryd.ntmps15
    go_wp2_with ((refine (C1.out).mono ?_); rintro e w1 ⟨rfl, hx1⟩)
    go_ret2
    exact ⟨ret_val (by rw [e1.out, e2.out]; rfl), hx1⟩
end Go.Proofs.YtioceakpmnhohaaDoor
