/-
  Records, one behind the other: pax.Write and the reference's Records.
-/
import Derived.Test.YtedcibjnnihhfaaDoorRecR
import Derived.Test.YtedcibjnnihhfaaDoorPairArg
import Derived.Test.YtedcibjnnihhfaaDoorPlacedL
namespace Go.Proofs.YtedcibjnnihhfaaDoor
open Go.RowKit

/-- The records of the first pairs. -/
def catR (K X : Nat → ByteArray) : Nat → ByteArray
  | 0 => ⟨#[]⟩
  | k + 1 => catR K X k ++ recB (K k) (X k)
/-- The first pair that is none. -/
def badR (n : Nat) (K X : Nat → ByteArray) : Option Nat := (List.range n).find? fun k => !pairB (K k) (X k)
def wrE (n : Nat) (K X : Nat → ByteArray) : Int := if 20 < n then 4 else if (badR n K X).isSome then 1 else 0
def wrP (n : Nat) (K X : Nat → ByteArray) : Int := if 20 < n then -1 else match badR n K X with | some k => (k : Int) | none => -1
def wrV (n : Nat) (K X : Nat → ByteArray) : ByteArray := if 20 < n then ⟨#[]⟩ else if (badR n K X).isSome then ⟨#[]⟩ else catR K X n
theorem badR_hit {n k : Nat} {K X : Nat → ByteArray} (hk : k < n) (h : ∀ j, j < k → pairB (K j) (X j) = true) (hb : pairB (K k) (X k) = false) : badR n K X = some k := by
  unfold badR
  rw [List.find?_range_eq_some]
  refine ⟨by rw [hb]; rfl, by simpa using hk, fun j hj => by rw [h j hj]; rfl⟩
theorem badR_none {n : Nat} {K X : Nat → ByteArray} (h : ∀ j, j < n → pairB (K j) (X j) = true) : badR n K X = none := by
  unfold badR
  rw [List.find?_eq_none]
  intro x hx
  rw [h x (by simpa using hx)]
  simp
theorem wr_many {n : Nat} (K X : Nat → ByteArray) (h : 20 < n) : wrV n K X = ⟨#[]⟩ ∧ wrE n K X = 4 ∧ wrP n K X = -1 := by
  unfold wrV wrE wrP
  rw [if_pos h, if_pos h, if_pos h]
  exact ⟨rfl, rfl, rfl⟩
theorem wr_bad {n k : Nat} {K X : Nat → ByteArray} (h20 : ¬ 20 < n) (hk : k < n) (h : ∀ j, j < k → pairB (K j) (X j) = true) (hb : pairB (K k) (X k) = false) : wrV n K X = ⟨#[]⟩ ∧ wrE n K X = 1 ∧ wrP n K X = k := by
  unfold wrV wrE wrP
  rw [if_neg h20, if_neg h20, if_neg h20, badR_hit hk h hb]
  exact ⟨rfl, rfl, rfl⟩
theorem wr_good {n : Nat} {K X : Nat → ByteArray} (h20 : ¬ 20 < n) (h : ∀ j, j < n → pairB (K j) (X j) = true) : wrV n K X = catR K X n ∧ wrE n K X = 0 ∧ wrP n K X = -1 := by
  unfold wrV wrE wrP
  rw [if_neg h20, if_neg h20, if_neg h20, badR_none h]
  exact ⟨rfl, rfl, rfl⟩
theorem recB_small {k v : ByteArray} (h : pairB k v = true) : (recB k v).size ≤ 206 := by
  have := pairB_len h
  rw [recB_size k v (by omega)]
  unfold recN dN
  split <;> (try split) <;> omega
theorem catR_size {K X : Nat → ByteArray} : ∀ (k : Nat), (∀ j, j < k → pairB (K j) (X j) = true) → (catR K X k).size ≤ k * 206
  | 0, _ => Nat.le_refl 0
  | k + 1, h => by
    have ih := catR_size k fun j hj => h j (by omega)
    have h1 := recB_small (h k (by omega))
    simp only [catR, ByteArray.size_append]
    rw [Nat.succ_mul]
    omega

theorem bareF_any (e : Int) (w : World) : Calls Tryd.prog 72 #[.int .i64 e] w fun x w' => x = .returned (.agg #[.int .i64 e, .int .i64 (-1)]) ∧ Ext w w' := by
  go_enter Tryd.func72, Tryd.ntmps72
  go_wp2_with fail
  exact bodyPost_ret (v := .agg #[.int .i64 e, .int .i64 (-1)]) (by simp [results, Tryd.results72, go_sem]) rfl ⟨rfl, (by show Below _ _ _; repeat' (first | (with_reducible exact Below.refl _ _) | (with_reducible assumption) | (with_reducible refine belowDrewN ?_ _) | (with_reducible refine Below.alloc ?_ ?_ _) | (with_reducible refine Below.drew ?_) | (with_reducible refine Below.setCell ?_ ?_ _) | go_size))⟩
theorem goodF_any (w : World) : Calls Tryd.prog 73 #[] w fun x w' => x = .returned (.agg #[.int .i64 0, .int .i64 (-1)]) ∧ Ext w w' := by
  go_enter Tryd.func73, Tryd.ntmps73
  go_wp2_with fail
  exact bodyPost_ret (v := .agg #[.int .i64 0, .int .i64 (-1)]) (by simp [results, Tryd.results73, go_sem]) rfl ⟨rfl, (by show Below _ _ _; repeat' (first | (with_reducible exact Below.refl _ _) | (with_reducible assumption) | (with_reducible refine belowDrewN ?_ _) | (with_reducible refine Below.alloc ?_ ?_ _) | (with_reducible refine Below.drew ?_) | (with_reducible refine Below.setCell ?_ ?_ _) | go_size))⟩

theorem allBelow2 {p : Nat → Bool} {k : Nat} (h : ∀ j, j < k → p j = true) (hk : p k = true) : ∀ j, j < k + 1 → p j = true := fun j hj => by
  rcases Nat.lt_succ_iff_lt_or_eq.1 hj with h1 | rfl
  · exact h j h1
  · exact hk
/-- A text and an error come back. -/
def GivesErr (s : ByteArray) (k pl : Int) (w : World) (e : Ending) (w' : World) : Prop := ∃ v, e = .returned (.tuple #[.string s, v]) ∧ IsErr w' v k pl ∧ Ext w w'

/-- All pairs are short. -/
def Short (n : Nat) (K X : Nat → ByteArray) : Prop := ∀ k, k < n → (K k).size + (X k).size ≤ 300

set_option maxHeartbeats 4000000 in
set_option maxRecDepth 100000 in
theorem paxWrite_any (w : World) (v : Value) (n : Nat) (K X : Nat → ByteArray) (h : IsPairs w v n K X) (hs : Short n K X) (ht : HasPow w) : Calls Tryd.prog 35 #[v] w (GivesErr (wrV n K X) (wrE n K X) (wrP n K X) w) := by
  by_cases h20 : 20 < n
  · obtain ⟨e1, e2, e3⟩ := wr_many K X h20
    rw [e1, e2, e3]
    have q1 : decide ((20 : Int) < (n : Int)) = true := decide_eq_true (by omega)
    rcases h with ⟨⟨a0, c0, rfl⟩, rfl⟩ | ⟨b, off, cap, rfl, hn, hc⟩
    · omega
    · clear hc hs e1 e2 e3 h20
      go_enter Tryd.func35, Tryd.ntmps35
      go_wp2_with fail
      go_ret2
      exact ⟨_, rfl, .inl ⟨rfl, rfl⟩, (by show Below _ _ _; repeat' (first | (with_reducible exact Below.refl _ _) | (with_reducible assumption) | (with_reducible refine belowDrewN ?_ _) | (with_reducible refine Below.alloc ?_ ?_ _) | (with_reducible refine Below.drew ?_) | (with_reducible refine Below.setCell ?_ ?_ _) | go_size))⟩
  · have q1 : decide ((20 : Int) < (n : Int)) = false := decide_eq_false (by omega)
    rcases h with ⟨⟨a0, c0, rfl⟩, rfl⟩ | ⟨b, off, cap, rfl, hn, hc⟩
    · obtain ⟨e1, e2, e3⟩ := wr_good (K := K) (X := X) h20 (fun j hj => by omega)
      rw [e1, e2, e3]
      go_enter Tryd.func35, Tryd.ntmps35
      go_wp2_with fail
      refine wp_loop_rounds 1 ?_
      rw [rounds_succ]
      go_wp2_with fail
      go_ret2
      exact ⟨_, rfl, .inl ⟨rfl, rfl⟩, (by show Below _ _ _; repeat' (first | (with_reducible exact Below.refl _ _) | (with_reducible assumption) | (with_reducible refine belowDrewN ?_ _) | (with_reducible refine Below.alloc ?_ ?_ _) | (with_reducible refine Below.drew ?_) | (with_reducible refine Below.setCell ?_ ?_ _) | go_size))⟩
    · have Hc := Lib.hid hc
      have Hs := Lib.hid hs
      clear hc hs
      go_enter Tryd.func35, Tryd.ntmps35
      go_wp2_with fail
      go_loopw [4, 13] (fun o i wr => ∃ k : Nat, k ≤ n ∧ o = .string (catR K X k) ∧ i = .int .i64 (k : Int) ∧ Hid (∀ j, j < k → pairB (K j) (X j) = true) ∧ Ext w wr) (fun _ i _ => n - (intOf i).toNat)
      case atStart => exact ⟨0, Nat.zero_le _, rfl, rfl, Lib.hid (fun j hj => by omega), Ext.refl _⟩
      case round =>
        obtain ⟨k, hk, rfl, rfl, hall, hE⟩ := hrel
        by_cases hlt : k < n
        · obtain ⟨b1, b2, c1, c2⟩ := Hc.out k hlt
          have g1 := hE.cell c1
          have g2 := hE.cell c2
          have hsh := Hs.out k hlt
          have C1 := Lib.hid (fun w => paxRight_any (K k) (X k) (by omega) (by omega) (by omega) w)
          have C2 := Lib.hid (fun w ht => paxText_any (K k) (X k) (by omega) w ht)
          have hbd : Hid (∀ W : World, Ext (wr.alloc (.cells #[.string (K k), .string (X k)] 59)) W → W.cell? ⟨wr.heap.size, 0, none⟩ = some (.string (K k)) ∧ W.cell? ⟨wr.heap.size, 1, none⟩ = some (.string (X k)) ∧ wr.heap.size < W.heap.size) := Lib.hid (fun W hW => by
            have h1 := hW.cell (show (wr.alloc (.cells #[.string (K k), .string (X k)] 59)).cell? ⟨wr.heap.size, 0, none⟩ = some (.string (K k)) by simp)
            have h2 := hW.cell (show (wr.alloc (.cells #[.string (K k), .string (X k)] 59)).cell? ⟨wr.heap.size, 1, none⟩ = some (.string (X k)) by simp)
            exact ⟨h1, h2, World.block_lt_of_cell? W _ h1⟩)
          have hE0 : Ext w (wr.alloc (.cells #[.string (K k), .string (X k)] 59)) := hE.alloc _
          have hcs := catR_size k hall.out
          have hkn : k * 206 ≤ 20 * 206 := Nat.mul_le_mul (by omega) (Nat.le_refl _)
          cases hp : pairB (K k) (X k) with
          | false =>
            obtain ⟨e1, e2, e3⟩ := wr_bad h20 hlt hall.out hp
            have ev : Hid (wrV n K X = ⟨#[]⟩ ∧ wrE n K X = 1 ∧ wrP n K X = k) := Lib.hid ⟨e1, e2, e3⟩
            rw [hp] at C1
            clear hp e1 e2 e3 c1 c2 b1 b2
            generalize catR K X k = acc at *
            generalize K k = kk at *
            generalize X k = xx at *
            go_wp2_with fail
            refine (C1.out _).mono ?_; rintro e w1 ⟨rfl, hx1⟩
            have hE1 := hE0.trans hx1
            go_wp2_with fail
            go_ret2
            rw [ev.out.1, ev.out.2.1, ev.out.2.2]
            exact ⟨_, rfl, .inr ⟨_, rfl, ⟨by simp, by simp⟩⟩, Ext.trans hE1 (by show Below _ _ _; repeat' (first | (with_reducible exact Below.refl _ _) | (with_reducible assumption) | (with_reducible refine belowDrewN ?_ _) | (with_reducible refine Below.alloc ?_ ?_ _) | (with_reducible refine Below.drew ?_) | (with_reducible refine Below.setCell ?_ ?_ _) | go_size))⟩
          | true =>
            have hrs := recB_small hp
            have Hp := Lib.hid hp
            have hnew : Hid (catR K X (k + 1) = catR K X k ++ recB (K k) (X k)) := Lib.hid rfl
            rw [hp] at C1
            clear hp c1 c2 b1 b2
            generalize catR K X k = acc at *
            generalize recB (K k) (X k) = rr at *
            go_wp2_with fail
            refine (C1.out _).mono ?_; rintro e w1 ⟨rfl, hx1⟩
            obtain ⟨g3, g4, g5⟩ := hbd.out w1 hx1
            have hE1 := hE0.trans hx1
            go_wp2_with fail
            refine (C2.out _ (ht.ext hE1)).mono ?_; rintro e w2 ⟨rfl, hx2⟩
            go_wp2_with fail
            go_roundw
            case rel => exact ⟨k + 1, hlt, by rw [hnew.out], by go_num, Lib.hid (allBelow2 hall.out Hp.out), hE1.trans hx2⟩
            case measure => simp [intOf]; omega
        · obtain rfl : k = n := by omega
          have ev : Hid (wrV k K X = catR K X k ∧ wrE k K X = 0 ∧ wrP k K X = -1) := Lib.hid (wr_good h20 hall.out)
          generalize catR K X k = acc at *
          go_wp2_with fail
          go_ret2
          rw [ev.out.1, ev.out.2.1, ev.out.2.2]
          exact ⟨_, rfl, .inl ⟨rfl, rfl⟩, hE⟩
end Go.Proofs.YtedcibjnnihhfaaDoor
