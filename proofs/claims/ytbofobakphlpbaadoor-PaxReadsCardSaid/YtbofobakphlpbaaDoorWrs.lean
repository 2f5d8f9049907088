/-
  Records, one behind the other: pax.Write and the reference's Records.
-/
import Derived.Test.YtbofobakphlpbaaDoorRecR
import Derived.Test.YtbofobakphlpbaaDoorPairArg
import Derived.Test.YtbofobakphlpbaaDoorPlacedL
namespace Go.Proofs.YtbofobakphlpbaaDoor
open Go.RowKit

/-- The records of the first pairs. -/
def catR (K X : Nat → ByteArray) : Nat → ByteArray
  | 0 => ⟨#[]⟩
  | k + 1 => catR K X k ++ recB (K k) (X k)
/-- The first pair that is none. -/
def badR (n : Nat) (K X : Nat → ByteArray) : Option Nat := (List.range n).find? fun k => !pairB (K k) (X k)
def wrE (n : Nat) (K X : Nat → ByteArray) : Int := if 20 < n then 4 else if (badR n K X).isSome then 1 else 0
def wrP (n : Nat) (K X : Nat → ByteArray) : Int := if 20 < n then -1 else match badR n K X with | some k => (k : Int) | none => -1
def wrV (n : Nat) (K X : Nat → ByteArray) : ByteArray := if 20 < n then ⟨#[]⟩ else if (badR n K X).isSome then ⟨#[]⟩ else catR K X n
theorem badR_hit {n k : Nat} {K X : Nat → ByteArray} (hk : k < n) (h : ∀ j, j < k → pairB (K j) (X j) = true) (hb : pairB (K k) (X k) = false) : badR n K X = some k := by
  unfold badR
  rw [List.find?_range_eq_some]
  refine ⟨by rw [hb]; rfl, by simpa using hk, fun j hj => by rw [h j hj]; rfl⟩
theorem badR_none {n : Nat} {K X : Nat → ByteArray} (h : ∀ j, j < n → pairB (K j) (X j) = true) : badR n K X = none := by
  unfold badR
  rw [List.find?_eq_none]
  intro x hx
  rw [h x (by simpa using hx)]
  simp
theorem wr_many {n : Nat} (K X : Nat → ByteArray) (h : 20 < n) : wrV n K X = ⟨#[]⟩ ∧ wrE n K X = 4 ∧ wrP n K X = -1 := by
  unfold wrV wrE wrP
  rw [if_pos h, if_pos h, if_pos h]
  exact ⟨rfl, rfl, rfl⟩
theorem wr_bad {n k : Nat} {K X : Nat → ByteArray} (h20 : ¬ 20 < n) (hk : k < n) (h : ∀ j, j < k → pairB (K j) (X j) = true) (hb : pairB (K k) (X k) = false) : wrV n K X = ⟨#[]⟩ ∧ wrE n K X = 1 ∧ wrP n K X = k := by
  unfold wrV wrE wrP
  rw [if_neg h20, if_neg h20, if_neg h20, badR_hit hk h hb]
  exact ⟨rfl, rfl, rfl⟩
theorem wr_good {n : Nat} {K X : Nat → ByteArray} (h20 : ¬ 20 < n) (h : ∀ j, j < n → pairB (K j) (X j) = true) : wrV n K X = catR K X n ∧ wrE n K X = 0 ∧ wrP n K X = -1 := by
  unfold wrV wrE wrP
  rw [if_neg h20, if_neg h20, if_neg h20, badR_none h]
  exact ⟨rfl, rfl, rfl⟩
theorem recB_small {k v : ByteArray} (h : pairB k v = true) : (recB k v).size ≤ 206 := by
  have := pairB_len h
  rw [recB_size k v (by omega)]
  unfold recN dN
  split <;> (try split) <;> omega
theorem catR_size {K X : Nat → ByteArray} : ∀ (k : Nat), (∀ j, j < k → pairB (K j) (X j) = true) → (catR K X k).size ≤ k * 206
  | 0, _ => Nat.le_refl 0
  | k + 1, h => by
    have ih := catR_size k fun j hj => h j (by omega)
    have h1 := recB_small (h k (by omega))
    simp only [catR, ByteArray.size_append]
    rw [Nat.succ_mul]
    omega

theorem goodF_any (w : World) : Calls Tryd.prog 44 #[] w fun x w' => x = .returned (.agg #[.int .i64 0, .int .i64 (-1)]) ∧ Ext w w' := by
  go_enter Tryd.func44, Tryd.ntmps44
  go_wp2_with fail
  exact bodyPost_ret (v := .agg #[.int .i64 0, .int .i64 (-1)]) (by simp [results, Tryd.results44, go_sem]) rfl ⟨rfl, (by show Below _ _ _; repeat' (first | (with_reducible exact Below.refl _ _) | (with_reducible assumption) | (with_reducible refine belowDrewN ?_ _) | (with_reducible refine Below.alloc ?_ ?_ _) | (with_reducible refine Below.drew ?_) | (with_reducible refine Below.setCell ?_ ?_ _) | go_size))⟩

theorem allBelow2 {p : Nat → Bool} {k : Nat} (h : ∀ j, j < k → p j = true) (hk : p k = true) : ∀ j, j < k + 1 → p j = true := fun j hj => by
  rcases Nat.lt_succ_iff_lt_or_eq.1 hj with h1 | rfl
  · exact h j h1
  · exact hk
/-- A text and an error come back. -/
def GivesErr (s : ByteArray) (k pl : Int) (w : World) (e : Ending) (w' : World) : Prop := ∃ v, e = .returned (.tuple #[.string s, v]) ∧ IsErr w' v k pl ∧ Ext w w'

/-- All pairs are short. -/
def Short (n : Nat) (K X : Nat → ByteArray) : Prop := ∀ k, k < n → (K k).size + (X k).size ≤ 300

end Go.Proofs.YtbofobakphlpbaaDoor
