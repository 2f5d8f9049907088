/-
  Numbers by the base 256: both functions give the same.
-/
import Derived.Test.YtbofobakphlpbaaGreatDoorBare
import Derived.Test.YtbofobakphlpbaaGreatDoorNum
import Derived.PlainAid
import Derived.Laws.IdiomStrings
import Derived.Deep.OwnRows
namespace Go.Proofs.YtbofobakphlpbaaGreatDoor
open Go.RowKit Go.PlainAid

/-- The byte at a place from behind. -/
def byteAt (n : Int) (k : Nat) : Int := (n / 2 ^ min (8 * k) 64) % 256
theorem byteAt_lo (n : Int) (k : Nat) : 0 ≤ byteAt n k := by unfold byteAt; omega
theorem byteAt_hi (n : Int) (k : Nat) : byteAt n k < 256 := by unfold byteAt; omega
def byteU (n : Int) (k : Nat) : UInt8 := UInt8.ofNat (byteAt n k).toNat
theorem byteU_int (n : Int) (k : Nat) : ((byteU n k).toNat : Int) = byteAt n k := by
  have h1 := byteAt_lo n k
  have h2 := byteAt_hi n k
  unfold byteU
  rw [UInt8.toNat_ofNat']
  omega
def low (n : Int) : Nat → List UInt8
  | 0 => []
  | k + 1 => byteU n k :: low n k
theorem low_length (n : Int) : ∀ k, (low n k).length = k
  | 0 => rfl
  | k + 1 => by simp [low, low_length n k]

def u8v (b : UInt8) : Value := .int .u8 (b.toNat : Int)
/-- The buffer behind so many rounds. -/
def buf (W : Nat) (n : Int) (k : Nat) : Array Value := (List.replicate (W - k) (Value.int .u8 0) ++ (low n k).map u8v).toArray
theorem buf_size (W : Nat) (n : Int) (k : Nat) (h : k ≤ W) : (buf W n k).size = W := by simp [buf, low_length]; omega
theorem buf_set (W : Nat) (n : Int) (k : Nat) (h : k < W) : (buf W n k).setIfInBounds (W - 1 - k) (.int .u8 (byteAt n k)) = buf W n (k + 1) := by
  have e : W - k = (W - 1 - k) + 1 := by omega
  have e2 : W - (k + 1) = W - 1 - k := by omega
  unfold buf
  rw [e, e2, List.setIfInBounds_toArray, List.replicate_succ', List.append_assoc, List.set_append_right _ _ (by simp)]
  simp [low, u8v, byteU_int]

/-- The first byte. -/
def topU (n : Int) : UInt8 := if n < 0 then 255 else 128
def binV (n : Int) (W : Nat) : ByteArray := ⟨(topU n :: low n (W - 1)).toArray⟩

/-- Which error. -/
def binE (n W : Int) : Int := if W < 8 ∨ 20 < W then 1 else if W = 8 ∧ (n < -36028797018963968 ∨ 36028797018963967 < n) then 2 else 0
def binS (n W : Int) : ByteArray := if binE n W = 0 then binV n W.toNat else ⟨#[]⟩

theorem infoU8 : (Tryz.prog.info? 5).map (fun i => (i.zero, i.size, i.bytes)) = some (some (.int .u8 0), 1, 1) := by kernel_rfl

theorem buf_start (W : Nat) (n : Int) : madeCells #[Value.int .u8 0] W = buf W n 0 := by
  have e : buf W n 0 = Array.replicate W (Value.int .u8 0) := by simp [buf, low]
  rw [e]
  apply Array.ext
  · simp [size_madeCells]
  · intro i h1 h2
    simp [madeCells, Nat.mod_one]
theorem byteAt_small {n : Int} {k : Nat} (h : k ≤ 8) : byteAt n k = n / 2 ^ (8 * k) % 256 := by
  unfold byteAt
  rw [show min (8 * k) 64 = 8 * k by omega]
def sh64 (n : Int) : Int := n / 2 ^ 64
theorem byteAt_big {n : Int} {k : Nat} (h : 8 ≤ k) : byteAt n k = sh64 n % 256 := by
  unfold byteAt sh64
  rw [show min (8 * k) 64 = 64 by omega]
theorem shift_big {n : Int} {k : Nat} (h : 8 ≤ k) : Op.shift .shr .i64 n .i64 (8 * (k : Int)) = pure (.int .i64 (sh64 n)) := by
  have h0 : (0 : Int) ≤ 8 * (k : Int) := by omega
  rw [shift_shr_any .i64 .i64 n (8 * (k : Int)) h0]
  have : min (8 * (k : Int)).toNat IntKind.i64.bits = 64 := by simp [IntKind.bits]; omega
  rw [this]; rfl

theorem conv_cells (w : World) (C : Array Value) (l : List UInt8) (W : Nat) (hl : l.length = W) (hC : C = (l.map u8v).toArray) :
    (convert 113 9 (.slice (some ⟨w.heap.size, 0, none⟩) W W)).run Tryz.prog (w.alloc (.cells C 5)) = .ok (.string ⟨l.toArray⟩) (w.alloc (.cells C 5)) := by
  subst hl hC
  refine run_convert_bytes_back (P := Tryz.prog) (w.alloc (.cells _ 5)) 113 9 5 ⟨w.heap.size, 0, none⟩ l.length l Tryz.underlying113 Tryz.underlying5 Tryz.underlying9 ?_
  intro j hj
  have e : Addr.add ⟨w.heap.size, 0, none⟩ j = ⟨w.heap.size, j, none⟩ := by
    simp only [Addr.add]
    split <;> simp_all
  rw [e]
  refine (World.cell?_alloc_mark w (l.map u8v).toArray 5 (0, 0) j).trans ?_
  simp [u8v, hj]
theorem buf_end (W : Nat) (n : Int) (hW : 0 < W) (b : UInt8) : (buf W n (W - 1)).setIfInBounds 0 (u8v b) = ((b :: low n (W - 1)).map u8v).toArray := by
  unfold buf
  rw [show W - (W - 1) = 1 by omega]
  simp

set_option maxRecDepth 100000 in
theorem binary_good (n : Int) (W : Nat) (w : World) (h1 : 8 ≤ W) (h2 : W ≤ 20) (hr : W = 8 → -36028797018963968 ≤ n ∧ n ≤ 36028797018963967) : Calls Tryz.prog 96 #[.int .i64 n, .int .i64 (W : Int)] w fun e w' => e = .returned (.tuple #[.string (binV n W), .nilIface]) ∧ Ext w w' := by
  have g1 : (8 : Int) ≤ (W : Int) := by omega
  have g2 : (W : Int) ≤ 20 := by omega
  have hmk := run_make_row' (P := Tryz.prog) 113 5 (.int .u8 0) 1 Tryz.underlying113 infoU8 rfl .i64 .i64 W (by omega) (by omega)
  have hsz : 0 < W := by omega
  rw [buf_start W n] at hmk
  rcases (show ((W : Int) == 8) = false ∨ (((W : Int) == 8) = true ∧ -36028797018963968 ≤ n ∧ n ≤ 36028797018963967) by
      by_cases e : W = 8
      · right; exact ⟨by simp; omega, hr e⟩
      · left; simp; omega) with h8 | ⟨h8, h9, h10⟩
  all_goals
    clear hr
    go_enter Tryz.func96, Tryz.ntmps96
    go_wp2_with fail
    go_loopw [30] (fun i w' => ∃ k : Nat, k < W ∧ i = .int .i64 (k : Int) ∧ w' = w.alloc (.cells (buf W n k) 5)) (fun i _ => (W - intOf i).toNat)
    case atStart => exact ⟨0, hsz, rfl, rfl⟩
    case round =>
      obtain ⟨k, hk, rfl, rfl⟩ := hrel
      have hbs := buf_size W n k (by omega)
      by_cases hlt : (k : Int) < (W : Int) - 1
      · have i0 : 0 ≤ (W : Int) - 1 - (k : Int) := by omega
        have i1 : (W : Int) - 1 - (k : Int) < (W : Int) := by omega
        have it : ((W : Int) - 1 - (k : Int)).toNat = W - 1 - k := by omega
        have hin : W - 1 - k < W := by omega
        have hst := buf_set W n k hk
        by_cases h88 : k < 8
        · have h8k : 8 * (k : Int) ≤ 64 := by omega
          have hby : Hid (byteAt n k = n / 2 ^ (8 * k) % 256) := Lib.hid (byteAt_small (by omega))
          have Hst := Lib.hid hst
          clear hst
          go_wp2_with fail
          go_roundw
          case rel => exact ⟨k + 1, by omega, by go_num, by rw [← Hst.out, hby.out]⟩
          case measure => simp [intOf]; omega
        · have h8' : W ≠ 8 := by omega
          first
            | (exfalso; simp at h8; omega)
            | (
              have hshf := shift_big (n := n) (k := k) (by omega)
              have hby : Hid (byteAt n k = sh64 n % 256) := Lib.hid (byteAt_big (by omega))
              have Hst := Lib.hid hst
              clear hst
              go_wp2_with fail
              go_roundw
              case rel => exact ⟨k + 1, by omega, by go_num, by rw [← Hst.out, hby.out]⟩
              case measure => simp [intOf]; omega)
      · have hk1 : k = W - 1 := by omega
        have hend := buf_end W n hsz
        rw [← hk1] at hend
        by_cases hn : n < 0
        · have hv : binV n W = ⟨(255 :: low n k).toArray⟩ := by unfold binV topU; rw [if_pos hn, hk1]
          have hc2 := conv_cells w _ (255 :: low n k) W (by rw [List.length_cons, low_length]; omega) (hend 255)
          rw [← hv, show u8v 255 = Value.int .u8 255 from rfl] at hc2
          have hc3 : ((buf W n k).setIfInBounds 0 (.int .u8 128)).setIfInBounds 0 (.int .u8 255) = (buf W n k).setIfInBounds 0 (.int .u8 255) := by simp
          have hc1 := hc2
          rw [← hc3] at hc1
          clear hend hk1 hc3 hv
          go_wp2_with fail
          go_ret2
          exact ⟨rfl, (by show Below _ _ _; repeat' (first | (with_reducible exact Below.refl _ _) | (with_reducible assumption) | (with_reducible refine belowDrewN ?_ _) | (with_reducible refine Below.alloc ?_ ?_ _) | (with_reducible refine Below.drew ?_) | (with_reducible refine Below.setCell ?_ ?_ _) | go_size))⟩
        · have hv : binV n W = ⟨(128 :: low n k).toArray⟩ := by unfold binV topU; rw [if_neg hn, hk1]
          have hc2 := conv_cells w _ (128 :: low n k) W (by rw [List.length_cons, low_length]; omega) (hend 128)
          rw [← hv, show u8v 128 = Value.int .u8 128 from rfl] at hc2
          clear hend hk1 hv
          go_wp2_with fail
          go_ret2
          exact ⟨rfl, (by show Below _ _ _; repeat' (first | (with_reducible exact Below.refl _ _) | (with_reducible assumption) | (with_reducible refine belowDrewN ?_ _) | (with_reducible refine Below.alloc ?_ ?_ _) | (with_reducible refine Below.drew ?_) | (with_reducible refine Below.setCell ?_ ?_ _) | go_size))⟩
end Go.Proofs.YtbofobakphlpbaaGreatDoor
