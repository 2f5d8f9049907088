/-
  mode.Text: a mode as nine letters.
-/
import Derived.Test.YtbofobakphlpbaaDoorBytes
import Derived.Test.YtbofobakphlpbaaDoorModeV
namespace Go.Proofs.YtbofobakphlpbaaDoor
open Go.RowKit Go.PlainAid

/-- Between two rounds of the loops. -/
def MtRel1 (m : Int) (w : World) (i : Value) (wr : World) : Prop := ∃ k : Nat, k ≤ 9 ∧ i = .int .i64 (k : Int) ∧ BytesAt wr w.heap.size (row1 m k) ∧ Ext w wr
def MtRel2 (m : Int) (w : World) (i : Value) (wr : World) : Prop := ∃ k : Nat, k ≤ 3 ∧ i = .int .i64 (k : Int) ∧ BytesAt wr w.heap.size (row2 m k) ∧ Ext w wr

theorem lastC_on (m : Int) (i : Nat) (hs : bitB m (11 - i) = true) (ho : bitB m (6 - 3 * i) = true) : lastC m i = sstA i := by unfold lastC; rw [hs, ho]; rfl
theorem lastC_off (m : Int) (i : Nat) (hs : bitB m (11 - i) = true) (ho : bitB m (6 - 3 * i) = false) : lastC m i = sstA i - 32 := by unfold lastC; rw [hs, ho]; rfl

set_option maxHeartbeats 4000000 in
set_option maxRecDepth 100000 in
theorem modeText_any (m : Int) (w : World) : Calls Tryd.prog 36 #[.int .i64 m] w fun e w' => e = .returned (.string ⟨(modeL m).toArray⟩) ∧ Ext w w' := by
  have kc := fun (w : World) (C : Array Value) (n c : Nat) => Lib.run_convert_bytes_const (P := Tryd.prog) w 120 5 C n c Tryd.underlying120 Tryd.underlying5
  go_enter Tryd.func36, Tryd.ntmps36
  go_wp2_with fail
  go_loopw [11] (fun i wr => MtRel1 m w i wr) (fun i _ => (9 - intOf i).toNat)
  case atStart => exact ⟨0, by omega, rfl, by rw [row1_start]; exact BytesAt.ofAlloc w _ _ 9 _ (by decide) (fun j hj => by
    simp at hj
    rcases (show j = 0 ∨ j = 1 ∨ j = 2 ∨ j = 3 ∨ j = 4 ∨ j = 5 ∨ j = 6 ∨ j = 7 ∨ j = 8 by omega) with rfl | rfl | rfl | rfl | rfl | rfl | rfl | rfl | rfl <;> rfl), (Ext.refl w).alloc _⟩
  case round =>
    obtain ⟨k, hk, rfl, hB, hE⟩ := hrel
    have hl := row1_len m k
    by_cases hlt : k < 9
    · have i0 : (0 : Int) ≤ 8 - (k : Int) := by omega
      have i1 : (8 : Int) - (k : Int) ≤ 64 := by omega
      have it : ((8 : Int) - (k : Int)).toNat = 8 - k := by omega
      have ha := and1_i64 (m / 2 ^ (8 - k))
      have hbm := bitB_mod m (8 - k)
      cases hb : bitB m (8 - k) with
      | true =>
        rw [hb] at hbm
        have HB := Lib.hid (show BytesAt wr w.heap.size (row1 m (k + 1)) by rw [← row1_keep m k hlt hb]; exact hB)
        clear hb hB
        go_wp2_with fail
        go_roundw
        case rel => exact ⟨k + 1, hlt, by go_num, HB.out, hE⟩
        case measure => simp [intOf]; omega
      | false =>
        rw [hb] at hbm
        have g1 := hB.1 k (by omega)
        have g2 := hB.2 k (by omega)
        have HB := Lib.hid (show BytesAt (wr.setCell ⟨w.heap.size, k, none⟩ (.int .u8 45)) w.heap.size (row1 m (k + 1)) by rw [← row1_set m k hlt hb]; exact hB.set k (by omega) 45)
        generalize ((row1 m k)[k]'(by omega)).toNat = old at g1
        clear hb hB
        go_wp2_with fail
        go_roundw
        case rel => exact ⟨k + 1, hlt, by go_num, HB.out, hE.setCell (Nat.le_refl _) _⟩
        case measure => simp [intOf]; omega
    · obtain rfl : k = 9 := by omega
      have HB := Lib.hid hB
      clear hB hl hk hlt
      go_wp2_with fail
      go_loopw [24] (fun i wr => MtRel2 m w i wr) (fun i _ => (3 - intOf i).toNat)
      case atStart => exact ⟨0, by omega, rfl, by rw [← row1_end]; exact HB.out, hE⟩
      case round =>
        obtain ⟨k, hk, rfl, hB, hE⟩ := hrel
        have hl := row2_len m k
        by_cases hlt : k < 3
        · have ha := and1_i64 (m / 2 ^ (11 - k))
          have hbm := bitB_mod m (11 - k)
          cases hb : bitB m (11 - k) with
          | false =>
            rw [hb] at hbm
            have i0 : (0 : Int) ≤ 11 - (k : Int) := by omega
            have i1 : (11 : Int) - (k : Int) ≤ 64 := by omega
            have it : ((11 : Int) - (k : Int)).toNat = 11 - k := by omega
            have HB := Lib.hid (show BytesAt wr w.heap.size (row2 m (k + 1)) by rw [← row2_keep m k hlt hb]; exact hB)
            clear hb hB
            go_wp2_with fail
            go_roundw
            case rel => exact ⟨k + 1, hlt, by go_num, HB.out, hE⟩
            case measure => simp [intOf]; omega
          | true =>
            rw [hb] at hbm
            have hcell : (row2 m k)[3 * k + 2]? = some (plainC m (3 * k + 2)) := by rw [row2_at _ _ _ (by omega), if_neg (by omega)]
            have g2 := hB.2 (3 * k + 2) (by omega)
            have hon := lastC_on m k hb
            have hoff := lastC_off m k hb
            have hset := row2_set m k hlt
            have i0 : (0 : Int) ≤ 11 - (k : Int) := by omega
            have i1 : (11 : Int) - (k : Int) ≤ 64 := by omega
            have it : ((11 : Int) - (k : Int)).toNat = 11 - k := by omega
            have i2 : (3 * (k : Int) + 2).toNat = 3 * k + 2 := by omega
            have i3 : 3 * k + 2 < 9 := by omega
            have s0 : ∀ h, (((⟨#[115, 115, 116]⟩ : ByteArray)[k]'h).toNat : Int) = ((sstA k).toNat : Int) := fun h => by
              rcases (show k = 0 ∨ k = 1 ∨ k = 2 by omega) with rfl | rfl | rfl <;> rfl
            have s1 : (115 : Int) ≤ ((sstA k).toNat : Int) := by rcases (show k = 0 ∨ k = 1 ∨ k = 2 by omega) with rfl | rfl | rfl <;> decide
            have s2 : ((sstA k).toNat : Int) ≤ 116 := by rcases (show k = 0 ∨ k = 1 ∨ k = 2 by omega) with rfl | rfl | rfl <;> decide
            have s3 : ((sstA k - 32).toNat : Int) = ((sstA k).toNat : Int) - 32 := by rcases (show k = 0 ∨ k = 1 ∨ k = 2 by omega) with rfl | rfl | rfl <;> decide
            have S3 := Lib.hid s3
            clear s3
            cases ho : bitB m (6 - 3 * k) with
            | true =>
              have hC : plainC m (3 * k + 2) = 120 := by
                unfold plainC
                rw [show 8 - (3 * k + 2) = 6 - 3 * k by omega, ho]
                simp [letA]
              rw [hC] at hcell
              have g1 := hB.cell hcell
              have HB := Lib.hid (show BytesAt (wr.setCell ⟨w.heap.size, 3 * k + 2, none⟩ (.int .u8 ((sstA k).toNat : Int))) w.heap.size (row2 m (k + 1)) by
                rw [← hset (sstA k) (hon ho).symm]; exact hB.set (3 * k + 2) (by omega) (sstA k))
              clear hb hB hon hoff hset ho hC hcell
              go_wp2_with fail
              go_roundw
              case rel => exact ⟨k + 1, hlt, by go_num, HB.out, hE.setCell (Nat.le_refl _) _⟩
              case measure => simp [intOf]; omega
            | false =>
              have hC : plainC m (3 * k + 2) = 45 := by
                unfold plainC
                rw [show 8 - (3 * k + 2) = 6 - 3 * k by omega, ho]
                rfl
              rw [hC] at hcell
              have g1 := hB.cell hcell
              have HB := Lib.hid (show BytesAt (wr.setCell ⟨w.heap.size, 3 * k + 2, none⟩ (.int .u8 (((sstA k).toNat : Int) - 32))) w.heap.size (row2 m (k + 1)) by
                rw [← hset (sstA k - 32) (hoff ho).symm, ← S3.out]; exact hB.set (3 * k + 2) (by omega) (sstA k - 32))
              clear hb hB hon hoff hset ho hC hcell
              go_wp2_with fail
              go_roundw
              case rel => exact ⟨k + 1, hlt, by go_num, HB.out, hE.setCell (Nat.le_refl _) _⟩
              case measure => simp [intOf]; omega
        · obtain rfl : k = 3 := by omega
          have hcv := hB.conv 9 9 hl
          go_wp2_with fail
          go_ret
          exact ⟨rfl, hE⟩
end Go.Proofs.YtbofobakphlpbaaDoor
