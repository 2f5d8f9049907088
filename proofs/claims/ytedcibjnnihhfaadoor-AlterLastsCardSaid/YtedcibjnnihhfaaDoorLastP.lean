/-
  alter.Last: the slice of the places.
-/
import Derived.Test.YtedcibjnnihhfaaDoorLast
namespace Go.Proofs.YtedcibjnnihhfaaDoor
open Go.RowKit Go.WideShapes Go.Shelf

def contRen : Go.Shelf.Ren := ⟨fun | 8 => 50 | 6 => 101 | n => n, fun | 22 => 32 | 23 => 94 | 25 => 92 | 3 => 3 | 4 => 4 | 0 => 0 | n => n, fun | n => n⟩
theorem contLays : Go.Proofs.SlLaysH0.n8 Tryd.prog contRen := {
  mixed := by kernel_rfl
  f6 := ⟨Tryd.f101.name, by decide, Tryd.func101.trans (congrArg some (by kernel_rfl))⟩
  f8 := ⟨Tryd.f50.name, by decide, Tryd.func50.trans (congrArg some (by kernel_rfl))⟩
  t0 := by kernel_rfl
  a0 := fun w => by kernel_rfl
  z0 := fun w => by kernel_rfl
  v0 := fun w => by kernel_rfl
  t3 := by kernel_rfl
  a3 := fun w => by kernel_rfl
  z3 := fun w => by kernel_rfl
  v3 := fun w => by kernel_rfl
  t4 := by kernel_rfl
  a4 := fun w => by kernel_rfl
  z4 := fun w => by kernel_rfl
  v4 := fun w => by kernel_rfl
  t22 := by kernel_rfl
  a22 := fun w => by kernel_rfl
  z22 := fun w => by kernel_rfl
  v22 := fun w => by kernel_rfl
  t25 := by kernel_rfl
  a25 := fun w => by kernel_rfl
  z25 := fun w => by kernel_rfl
  v25 := fun w => by kernel_rfl }

/-- Is there a member with the same name behind member k? -/
def contB (E : Nat → SmEnt) (n k : Nat) : Bool := ((List.range (n - k - 1)).map fun j => E (k + 1 + j)).any fun x => sameN (clnN x.1.nm) (clnN (E k).1.nm)
/-- The places of the last ones among the first k. -/
def lastL (E : Nat → SmEnt) (n k : Nat) : List Int := ((List.range k).filter fun i => !contB E n i).map fun i : Nat => (i : Int)
theorem lastL_len (E : Nat → SmEnt) (n k : Nat) : (lastL E n k).length ≤ k := by
  unfold lastL
  rw [List.length_map]
  have := List.length_filter_le (fun i => !contB E n i) (List.range k)
  simpa using this
theorem lastL_hit {E : Nat → SmEnt} {n k : Nat} (h : contB E n k = false) : lastL E n (k + 1) = lastL E n k ++ [(k : Int)] := by
  unfold lastL
  rw [List.range_succ, List.filter_append]
  simp [h]
theorem lastL_miss {E : Nat → SmEnt} {n k : Nat} (h : contB E n k = true) : lastL E n (k + 1) = lastL E n k := by
  unfold lastL
  rw [List.range_succ, List.filter_append]
  simp [h]

theorem ext_grown {w w' : World} (h : Ext w w') : w.grownBy w' none := ⟨h.os, h.tape, h.output, h.size, fun b hb _ => h.block b hb⟩
theorem ext_owns {w w' : World} {base : Nat} {t : TypeId} {sz : Nat} {v : Value} {n : Nat} {xs : List Value} (h : w.ownsRow base t sz v n xs) (hE : Ext w w') : w'.ownsRow base t sz v n xs :=
  h.kept (ext_grown hE) (by cases v.ownBlock <;> simp)
theorem owns_ge {w : World} {base : Nat} {t : TypeId} {sz : Nat} {v : Value} {n : Nat} {xs : List Value} (h : w.ownsRow base t sz v n xs) {B : Nat} (hB : B ≤ base) : ∀ k, v.ownBlock = some k → B ≤ k := fun k hk => Nat.le_trans hB (World.ownsRow.lt h k hk).1
theorem infoIntL : (Tryd.prog.info? 3).map (fun i => (i.zero, i.size, i.bytes)) = some (some (.int .i64 0), 1, 8) := by kernel_rfl

/-- The slice holds the members. -/
def Ents (w : World) (b off n : Nat) (E : Nat → SmEnt) : Prop := ∀ k, k < n → ∀ j, j < 15 → w.cell? ⟨b, off + k * 15 + j, none⟩ = (E k).1.cells[j]?
theorem Ents.ext {w w' : World} {b off n : Nat} {E : Nat → SmEnt} (h : Ents w b off n E) (hE : Ext w w') : Ents w' b off n E := fun k hk j hj => by
  have h1 := h k hk j hj
  have h2 : (E k).1.cells[j]? = some ((E k).1.cells[j]'(by simpa [Ent.cells] using hj)) := List.getElem?_eq_getElem _
  rw [h2] at h1
  rw [hE.cell h1, h2]

set_option maxHeartbeats 1600000 in
set_option maxRecDepth 100000 in
theorem cont_any (E : Nat → SmEnt) (b off n k : Nat) (hk : k < n) (hn : n ≤ 45) (off' cap' : Nat) (hoff : k + 1 < n → off' = off + (k + 1) * 15) (g : Nat) (w : World) (hm : HasMax w) (h : Ents w b off n E) (hg : EntAt w g (E k).1) :
    Calls Tryd.prog 50 #[.slice (some ⟨b, off', none⟩) (n - (k + 1)) cap', .func (.func 51) #[] #[.pointer (some ⟨g, 0, none⟩)]] w fun e w' => e = .returned (.bool (contB E n k)) ∧ Ext w w' := by
  have hlb : b < w.heap.size := World.block_lt_of_cell? w _ (h k hk 0 (by omega))
  have := AnyQ.slices_ContainsFunc contLays 15 (fun w => by kernel_rfl) (fun w => by kernel_rfl) (fun x : SmEnt => x.1.cells) (fun x => by simp [Ent.cells]) (fun x => sameN (clnN x.1.nm) (clnN (E k).1.nm)) 51 #[.pointer (some ⟨g, 0, none⟩)]
    (enters_of Tryd.func51 (by kernel_rfl) rfl) b off' (n - (k + 1)) cap' ((List.range (n - k - 1)).map fun j => E (k + 1 + j)) w (same_pred (E k) g w hm hg) (by simp; omega) (by omega) hlb (fun j hj i v hi => by
      have hj' : j < n - k - 1 := by simpa using hj
      have e : ((List.range (n - k - 1)).map fun j => E (k + 1 + j))[j]! = E (k + 1 + j) := by
        rw [getElem!_pos _ j hj]
        simp
      rw [e] at hi
      have hi15 : i < 15 := by
        have h2 := (List.getElem?_eq_some_iff.1 hi).1
        simpa [Ent.cells] using h2
      rw [hoff (by omega)]
      have h3 := h (k + 1 + j) (by omega) i hi15
      rw [hi] at h3
      rw [← h3]
      congr 2
      omega)
  have e2 : ((List.range (n - k - 1)).map fun j => E (k + 1 + j)).take (n - (k + 1)) = (List.range (n - k - 1)).map fun j => E (k + 1 + j) := List.take_of_length_le (by simp; omega)
  rw [e2] at this
  exact this
end Go.Proofs.YtedcibjnnihhfaaDoor
