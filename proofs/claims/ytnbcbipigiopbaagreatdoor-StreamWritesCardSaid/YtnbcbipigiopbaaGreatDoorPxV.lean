/-
  A member of Pax, in plain words. No program, no conditions.
-/
import Derived.Test.YtnbcbipigiopbaaGreatDoorPxN
import Derived.Test.YtnbcbipigiopbaaGreatDoorMwG
namespace Go.Proofs.YtnbcbipigiopbaaGreatDoor
open Go.RowKit

/-- A number that a header has room for, or 0. -/
def idV (n : Int) : Int := if 2097151 < n then 0 else n
def tmV (n : Int) : Int := if rngB n 0 8589934591 = true then n else 0
def nmV (fits : Bool) (nm : ByteArray) : ByteArray := if fits = true then nm else paxNm
def datV (sp : Bool) (A S : Nat → Int) (n : Nat) (dt : ByteArray) : ByteArray := if sp = true then linB A S n ++ dt else dt
/-- The error of the extended header. -/
def paxE1 (L : List (ByteArray × ByteArray)) (k1 : Int) : Int := if L.length = 0 then 0 else if wrE L.length (keyF L) (valF L) = 0 then k1 else 2
/-- The extended header. -/
def paxO (L : List (ByteArray × ByteArray)) (k1 : Int) (h1 : ByteArray) : ByteArray := if L.length = 0 then ⟨#[]⟩ else wrnV k1 h1 (wrV L.length (keyF L) (valF L))
def paxE (L : List (ByteArray × ByteArray)) (k1 k2 : Int) : Int := if paxE1 L k1 = 0 then k2 else paxE1 L k1
def paxV (L : List (ByteArray × ByteArray)) (k1 k2 : Int) (h1 h2 dat : ByteArray) : ByteArray := if paxE1 L k1 = 0 then (if k2 = 0 then paxO L k1 h1 ++ wrnV k2 h2 dat else ⟨#[]⟩) else ⟨#[]⟩
theorem IsPrs.open {w : World} {v : Value} {l : List (ByteArray × ByteArray)} (h : IsPrs w v l) : ∃ oa cap, v = .slice oa l.length cap := by
  rcases h with ⟨⟨a, c, rfl⟩, rfl⟩ | ⟨b, off, cap, rfl, _⟩
  · exact ⟨_, _, rfl⟩
  · exact ⟨_, _, rfl⟩
theorem datV_size {sp : Bool} {A S : Nat → Int} {n : Nat} {dt : ByteArray} (hn : n ≤ 20) (h : ∀ k, k < n → 0 ≤ A k ∧ A k ≤ 4000 ∧ 0 ≤ S k ∧ S k ≤ 4000) : (datV sp A S n dt).size ≤ 1200 + dt.size := by
  have := linB_size hn h
  unfold datV
  split
  · rw [ByteArray.size_append]; omega
  · omega
theorem idV_rng {n : Int} (h0 : 0 ≤ n) : 0 ≤ idV n ∧ idV n ≤ 2097151 := by unfold idV; split <;> omega
theorem tmV_rng (n : Int) : 0 ≤ tmV n ∧ tmV n ≤ 8589934591 := by
  unfold tmV rngB
  split
  · rename_i h
    simp only [Bool.and_eq_true, decide_eq_true_eq] at h
    exact h
  · omega
theorem wrV_size {L : List (ByteArray × ByteArray)} (hl : L.length ≤ 8) : (wrV L.length (keyF L) (valF L)).size ≤ 1700 := by
  unfold wrV
  split
  · show 0 ≤ _
    omega
  · split
    · show 0 ≤ _
      omega
    · rename_i h1 h2
      have hall : ∀ j, j < L.length → pairB (keyF L j) (valF L j) = true := fun j hj => by
        cases hp : pairB (keyF L j) (valF L j) with
        | true => rfl
        | false =>
          exfalso
          apply h2
          unfold badR
          rw [List.find?_isSome]
          exact ⟨j, by simpa using hj, by rw [hp]; rfl⟩
      have := catR_size L.length hall
      have h3 : L.length * 206 ≤ 8 * 206 := Nat.mul_le_mul hl (Nat.le_refl _)
      omega
theorem row_cell {w : World} {g i : Nat} {cs : Array Value} {t : TypeId} {v : Value} (h : w.heap[g]? = some (.cells cs t (0, 0))) (hi : cs[i]? = some v) : w.cell? ⟨g, i, none⟩ = some v := by simp [World.cell?, h, hi]
theorem rawA_box {W : World} {g : Nat} {nm lk us gr fr : ByteArray} {kd md ui gi sz tm ma mi : Int} {t : TypeId} (h : W.heap[g]? = some (.cells (rawA nm lk us gr fr kd md ui gi sz tm ma mi) t (0, 0))) :
    (W.cell? ⟨g, 0, none⟩ = some (.string nm) ∧ W.cell? ⟨g, 1, none⟩ = some (.string lk) ∧ W.cell? ⟨g, 2, none⟩ = some (.string us) ∧ W.cell? ⟨g, 3, none⟩ = some (.string gr) ∧ W.cell? ⟨g, 4, none⟩ = some (.string fr) ∧ W.cell? ⟨g, 5, none⟩ = some (.int .u8 kd) ∧ W.cell? ⟨g, 6, none⟩ = some (.int .i64 md) ∧ W.cell? ⟨g, 7, none⟩ = some (.int .i64 ui) ∧ W.cell? ⟨g, 8, none⟩ = some (.int .i64 gi) ∧ W.cell? ⟨g, 9, none⟩ = some (.int .i64 sz) ∧ W.cell? ⟨g, 10, none⟩ = some (.int .i64 tm) ∧ W.cell? ⟨g, 11, none⟩ = some (.int .i64 ma) ∧ W.cell? ⟨g, 12, none⟩ = some (.int .i64 mi)) ∧ g < W.heap.size :=
  ⟨⟨row_cell h rfl, row_cell h rfl, row_cell h rfl, row_cell h rfl, row_cell h rfl, row_cell h rfl, row_cell h rfl, row_cell h rfl, row_cell h rfl, row_cell h rfl, row_cell h rfl, row_cell h rfl, row_cell h rfl⟩, lt_of_block h⟩
theorem row_free {w : World} {g i : Nat} {cs : Array Value} {t : TypeId} (h : w.heap[g]? = some (.cells cs t (0, 0))) : w.frozen? ⟨g, i, none⟩ = false := by simp [World.frozen?, h]
end Go.Proofs.YtnbcbipigiopbaaGreatDoor
