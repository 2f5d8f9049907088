/-
  An archive of members, in plain words. No program, no conditions.
-/
import Derived.Test.YtnbcbipigiopbaaGreatDoorPkA
import Derived.Lib.Repeat
import Derived.Test.YtnbcbipigiopbaaGreatDoorPkL
namespace Go.Proofs.YtnbcbipigiopbaaGreatDoor
open Go.RowKit

/-- Texts one behind the other, o ahead. -/
def catF (T : Nat → ByteArray) (o : ByteArray) : Nat → ByteArray
  | 0 => o
  | k + 1 => catF T o k ++ T k
theorem catF_size {T : Nat → ByteArray} {o : ByteArray} {n : Nat} (h : ∀ k, k < n → (T k).size ≤ 20000) : ∀ k, k ≤ n → (catF T o k).size ≤ o.size + k * 20000
  | 0, _ => by show o.size ≤ _; omega
  | k + 1, hk => by
    have h1 := catF_size (o := o) h k (by omega)
    have h2 := h k (by omega)
    show (catF T o k ++ T k).size ≤ _
    rw [ByteArray.size_append]
    omega
/-- The first that has an error. -/
def badF (n : Nat) (K : Nat → Int) : Option Nat := (List.range n).find? fun i => !(K i == 0)
theorem badF_hit {n k : Nat} {K : Nat → Int} (hk : k < n) (h : ∀ j, j < k → K j = 0) (hb : K k ≠ 0) : badF n K = some k := by
  unfold badF
  rw [List.find?_range_eq_some]
  refine ⟨by simpa using hb, by simpa using hk, fun j hj => ?_⟩
  simp [h j hj]
theorem badF_none {n : Nat} {K : Nat → Int} (h : ∀ j, j < n → K j = 0) : badF n K = none := by
  unfold badF
  rw [List.find?_eq_none]
  intro j hj
  have : j < n := by simpa using hj
  simp [h j this]
/-- The end of an archive. -/
def endB : ByteArray := ⟨(Lib.repeatL (⟨#[0]⟩ : ByteArray).data.toList 1024).toArray⟩
theorem endB_size : endB.size = 1024 := by
  have h := Lib.repeatL_length (⟨#[0]⟩ : ByteArray).data.toList 1024
  show (Lib.repeatL (⟨#[0]⟩ : ByteArray).data.toList 1024).toArray.size = _
  rw [List.size_toArray, h]
  rfl
/-- Text, error, place. -/
structure Tep where
  v : ByteArray
  e : Int
  p : Int
def loopV (T : Nat → ByteArray) (K : Nat → Int) (n : Nat) (o : ByteArray) : Tep :=
  match badF n K with
  | some i => ⟨⟨#[]⟩, K i, (i : Int)⟩
  | none => if 60000 < ((catF T o n ++ endB).size : Int) then ⟨⟨#[]⟩, 12, -1⟩ else ⟨catF T o n ++ endB, 0, -1⟩
theorem loopV_hit {T : Nat → ByteArray} {K : Nat → Int} {n k : Nat} {o : ByteArray} (hk : k < n) (h : ∀ j, j < k → K j = 0) (hb : K k ≠ 0) : loopV T K n o = ⟨⟨#[]⟩, K k, (k : Int)⟩ := by unfold loopV; rw [badF_hit hk h hb]
theorem loopV_full {T : Nat → ByteArray} {K : Nat → Int} {n : Nat} {o : ByteArray} (h : ∀ j, j < n → K j = 0) (hz : 60000 < ((catF T o n ++ endB).size : Int)) : loopV T K n o = ⟨⟨#[]⟩, 12, -1⟩ := by unfold loopV; rw [badF_none h]; exact if_pos hz
theorem loopV_good {T : Nat → ByteArray} {K : Nat → Int} {n : Nat} {o : ByteArray} (h : ∀ j, j < n → K j = 0) (hz : ¬ 60000 < ((catF T o n ++ endB).size : Int)) : loopV T K n o = ⟨catF T o n ++ endB, 0, -1⟩ := by unfold loopV; rw [badF_none h]; exact if_neg hz
/-- An archive: d the dialect, n members, m records that come to WV or to the error WE, GH the header of these. -/
def streamV (d : Int) (n m : Nat) (WE : Int) (GH : ByteArray) (T : Nat → ByteArray) (K : Nat → Int) : Tep :=
  if 40 < n then ⟨⟨#[]⟩, 4, -1⟩ else if 0 < m ∧ d ≠ 4 then ⟨⟨#[]⟩, 1, -1⟩ else if WE ≠ 0 then ⟨⟨#[]⟩, WE, -1⟩ else loopV T K n (if 0 < m ∧ 0 < n then GH else ⟨#[]⟩)
end Go.Proofs.YtnbcbipigiopbaaGreatDoor
/-
  An argument of type []api.Entry, opened, with the capacity of each one's pieces. No conditions.
-/
namespace Go.Proofs.YtnbcbipigiopbaaGreatDoor
open Go.ChangeShapes Go.WideShapes Go.ChangeAt Go.RowKit Go.ChangeMaps

set_option maxRecDepth 100000 in
theorem arg_entsC {H : Type} {enc : TypeId × Value → H} {W : World} {base : Nat} {v : Value} {d : DataW H} {p : List MemPlace} {ts : List TypeId} {ds : List (DataW H)} {j : Nat}
    (hv : Value.okWide Tryz.prog W .any base 30 v) (h : DataW.Trod enc Tryz.prog W 0 (fun _ => true) true 30 v d p)
    (hsz : (DataW.weightsEach Tryz.prog ts ds).all (· ≤ reachBytes) = true) (ht : ts[j]? = some 30) (hd : ds[j]? = some d) :
    ∃ (n : Nat) (E : Nat → Ent) (A S : Nat → Nat → Int), IsEnts W v n E ∧ ∀ k, k < n → IsPieces W (.slice (E k).pa (E k).pn (E k).pc) (E k).pn (A k) (S k) ∧ (E k).pn ≤ (E k).pc := by
  obtain ⟨a, len, cap, rfl⟩ := okWide_slice Tryz.underlying30 hv
  have e0 : Ent := ⟨⟨#[]⟩, 0, 0, 0, 0, 0, 0, 0, ⟨#[]⟩, ⟨#[]⟩, ⟨#[]⟩, 0, 0, ⟨#[]⟩, none, 0, 0⟩
  rcases (Rd.ofArg h hsz ht hd).slice Tryz.underlying30 with h0 | ⟨x, l, c, hcs, hlc, hc, hb, hi⟩
  · simp [Value.cells] at h0
    obtain ⟨rfl, rfl, rfl⟩ := h0
    exact ⟨0, fun _ => e0, fun _ _ => 0, fun _ _ => 0, .inl ⟨⟨_, _, rfl⟩, rfl⟩, fun k hk => by omega⟩
  · simp [Value.cells] at hcs
    obtain ⟨rfl, rfl, rfl⟩ := hcs
    rw [ecells_entry] at hi
    have hb' : len ≤ 8796093022200 := by
      have := ebytes_entry
      have h2 : len * 100 ≤ len * Tryz.prog.bytesOf 26 := Nat.mul_le_mul_left _ this
      omega
    have hq : ∀ i : Nat, ∃ q : Ent × (Nat → Int) × (Nat → Int), i < len → (∀ j, j < 15 → W.cell? (x.add (i * 15 + j)) = q.1.cells[j]?) ∧ q.1.Ok ∧ IsPieces W (.slice q.1.pa q.1.pn q.1.pc) q.1.pn q.2.1 q.2.2 ∧ q.1.pn ≤ q.1.pc := fun i => by
      by_cases hil : i < len
      · obtain ⟨ecs, _, hat, hr⟩ := hi i hil
        obtain ⟨e, A, S, rfl, ok, hp⟩ := rd_ent hr
        exact ⟨(e, A, S), fun _ => ⟨hat, ok, hp, rd_ent_cap hr⟩⟩
      · exact ⟨(e0, fun _ => 0, fun _ => 0), fun h => absurd h hil⟩
    obtain ⟨f, hf⟩ := Classical.axiomOfChoice hq
    obtain ⟨b, off, spot⟩ := x
    by_cases hl0 : len = 0
    · subst hl0
      exact ⟨0, fun _ => e0, fun _ _ => 0, fun _ _ => 0, .inl ⟨⟨_, _, rfl⟩, rfl⟩, fun k hk => by omega⟩
    · have hspot : spot = none := by
        have h0 := (hf 0 (by omega)).1 0 (by omega)
        have : (f 0).1.cells[0]? = some (.string (f 0).1.nm) := rfl
        rw [this] at h0
        simpa [Addr.add] using World.cell?_spot h0
      subst hspot
      exact ⟨len, fun i => (f i).1, fun i => (f i).2.1, fun i => (f i).2.2, .inr ⟨b, off, cap, rfl, hb', fun k hk => ⟨(hf k hk).2.1, fun j hj => by
        have := (hf k hk).1 j hj
        rw [add_plain, ← Nat.add_assoc] at this
        exact this⟩⟩, fun k hk => (hf k hk).2.2⟩
end Go.Proofs.YtnbcbipigiopbaaGreatDoor
