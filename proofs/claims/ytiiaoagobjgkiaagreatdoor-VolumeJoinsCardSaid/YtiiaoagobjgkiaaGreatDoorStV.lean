/-
  An archive of members, in plain words. No program, no conditions.
-/
import Derived.Test.YtiiaoagobjgkiaaGreatDoorKit
import Derived.Lib.Repeat
namespace Go.Proofs.YtiiaoagobjgkiaaGreatDoor
open Go.RowKit

/-- Texts one behind the other, o ahead. -/
def catF (T : Nat → ByteArray) (o : ByteArray) : Nat → ByteArray
  | 0 => o
  | k + 1 => catF T o k ++ T k
theorem catF_size {T : Nat → ByteArray} {o : ByteArray} {n : Nat} (h : ∀ k, k < n → (T k).size ≤ 20000) : ∀ k, k ≤ n → (catF T o k).size ≤ o.size + k * 20000
  | 0, _ => by show o.size ≤ _; omega
  | k + 1, hk => by
    have h1 := catF_size (o := o) h k (by omega)
    have h2 := h k (by omega)
    show (catF T o k ++ T k).size ≤ _
    rw [ByteArray.size_append]
    omega
/-- The first that has an error. -/
def badF (n : Nat) (K : Nat → Int) : Option Nat := (List.range n).find? fun i => !(K i == 0)
theorem badF_hit {n k : Nat} {K : Nat → Int} (hk : k < n) (h : ∀ j, j < k → K j = 0) (hb : K k ≠ 0) : badF n K = some k := by
  unfold badF
  rw [List.find?_range_eq_some]
  refine ⟨by simpa using hb, by simpa using hk, fun j hj => ?_⟩
  simp [h j hj]
theorem badF_none {n : Nat} {K : Nat → Int} (h : ∀ j, j < n → K j = 0) : badF n K = none := by
  unfold badF
  rw [List.find?_eq_none]
  intro j hj
  have : j < n := by simpa using hj
  simp [h j this]
/-- The end of an archive. -/
def endB : ByteArray := ⟨(Lib.repeatL (⟨#[0]⟩ : ByteArray).data.toList 1024).toArray⟩
theorem endB_size : endB.size = 1024 := by
  have h := Lib.repeatL_length (⟨#[0]⟩ : ByteArray).data.toList 1024
  show (Lib.repeatL (⟨#[0]⟩ : ByteArray).data.toList 1024).toArray.size = _
  rw [List.size_toArray, h]
  rfl
/-- Text, error, place. -/
structure Tep where
  v : ByteArray
  e : Int
  p : Int
def loopV (T : Nat → ByteArray) (K : Nat → Int) (n : Nat) (o : ByteArray) : Tep :=
  match badF n K with
  | some i => ⟨⟨#[]⟩, K i, (i : Int)⟩
  | none => if 60000 < ((catF T o n ++ endB).size : Int) then ⟨⟨#[]⟩, 12, -1⟩ else ⟨catF T o n ++ endB, 0, -1⟩
theorem loopV_hit {T : Nat → ByteArray} {K : Nat → Int} {n k : Nat} {o : ByteArray} (hk : k < n) (h : ∀ j, j < k → K j = 0) (hb : K k ≠ 0) : loopV T K n o = ⟨⟨#[]⟩, K k, (k : Int)⟩ := by unfold loopV; rw [badF_hit hk h hb]
theorem loopV_full {T : Nat → ByteArray} {K : Nat → Int} {n : Nat} {o : ByteArray} (h : ∀ j, j < n → K j = 0) (hz : 60000 < ((catF T o n ++ endB).size : Int)) : loopV T K n o = ⟨⟨#[]⟩, 12, -1⟩ := by unfold loopV; rw [badF_none h]; exact if_pos hz
theorem loopV_good {T : Nat → ByteArray} {K : Nat → Int} {n : Nat} {o : ByteArray} (h : ∀ j, j < n → K j = 0) (hz : ¬ 60000 < ((catF T o n ++ endB).size : Int)) : loopV T K n o = ⟨catF T o n ++ endB, 0, -1⟩ := by unfold loopV; rw [badF_none h]; exact if_neg hz
/-- An archive: d the dialect, n members, m records that come to WV or to the error WE, GH the header of these. -/
def streamV (d : Int) (n m : Nat) (WE : Int) (GH : ByteArray) (T : Nat → ByteArray) (K : Nat → Int) : Tep :=
  if 40 < n then ⟨⟨#[]⟩, 4, -1⟩ else if 0 < m ∧ d ≠ 4 then ⟨⟨#[]⟩, 1, -1⟩ else if WE ≠ 0 then ⟨⟨#[]⟩, WE, -1⟩ else loopV T K n (if 0 < m ∧ 0 < n then GH else ⟨#[]⟩)
end Go.Proofs.YtiiaoagobjgkiaaGreatDoor
