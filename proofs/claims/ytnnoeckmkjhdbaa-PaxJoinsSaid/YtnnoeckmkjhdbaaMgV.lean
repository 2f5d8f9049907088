/-
  Lists of pairs joined: what both sides give: of each key its last value, none that is empty, by key. Plain; no conditions.
-/
import Derived.Test.YtnnoeckmkjhdbaaKit
import Derived.Sort.LotA
import Derived.Lib.Bytealg
namespace Go.Proofs.Ytnnoeckmkjhdbaa
open Go.Sort (ltStr SWO swo_ltStr PermIn SortedIn)

abbrev Pr := ByteArray × ByteArray
theorem bl_eq : ∀ (x y : List UInt8), Op.bytesLess x y = ltStr x y
  | [], [] => by simp [Op.bytesLess, ltStr]
  | _ :: _, [] => by simp [Op.bytesLess, ltStr]
  | [], _ :: _ => by simp [Op.bytesLess, ltStr]
  | a :: x, b :: y => by
    rw [Op.bytesLess, bl_eq x y]
    unfold ltStr
    simp only [List.cons_lt_cons_iff]
    by_cases h1 : a < b <;> by_cases h2 : a = b <;> by_cases h3 : x < y <;> simp [h1, h2, h3]
theorem ltStr_tot {x y : List UInt8} (h1 : ltStr x y = false) (h2 : ltStr y x = false) : x = y := by
  simp only [ltStr, decide_eq_false_iff_not, List.not_lt] at h1 h2
  exact List.le_antisymm h2 h1
theorem cmp_neg : ∀ (x y : List UInt8), decide (Lib.compareBytes x y < 0) = ltStr x y
  | [], [] => by simp [Lib.compareBytes, ltStr]
  | _ :: _, [] => by simp [Lib.compareBytes, ltStr]
  | [], _ :: _ => by simp [Lib.compareBytes, ltStr]
  | a :: x, b :: y => by
    have ih := cmp_neg x y
    unfold Lib.compareBytes
    by_cases h1 : a < b
    · rw [if_pos h1]
      unfold ltStr
      simp [List.cons_lt_cons_iff, h1]
    · rw [if_neg h1]
      by_cases h2 : b < a
      · rw [if_pos h2]
        have h3 : a ≠ b := fun e => by rw [e] at h2; exact absurd h2 (by simp)
        unfold ltStr
        simp [List.cons_lt_cons_iff, h1, h3]
      · rw [if_neg h2, ih]
        have h3 : a = b := UInt8.le_antisymm (UInt8.not_lt.1 h2) (UInt8.not_lt.1 h1)
        subst h3
        unfold ltStr
        simp [List.cons_lt_cons_iff]

/-- The order: by key. -/
def ltP (a b : Pr) : Bool := ltStr a.1.data.toList b.1.data.toList
theorem swo_ltP : SWO ltP where
  irrefl x := swo_ltStr.irrefl _
  trans x y z h1 h2 := swo_ltStr.trans _ _ _ h1 h2
  ntrans x y z h1 h2 := swo_ltStr.ntrans _ _ _ h1 h2
theorem key_ext {a b : ByteArray} (h : a.data.toList = b.data.toList) : a = b := by
  obtain ⟨⟨a⟩⟩ := a
  obtain ⟨⟨b⟩⟩ := b
  simp only at h
  rw [h]
theorem ltP_tot {a b : Pr} (h1 : ltP a b = false) (h2 : ltP b a = false) : a.1 = b.1 := key_ext (ltStr_tot h1 h2)
theorem ltP_asym {a b : Pr} (h : ltP a b = true) : ltP b a = false := by
  cases h2 : ltP b a with
  | false => rfl
  | true =>
    have := swo_ltP.trans _ _ _ h h2
    rw [swo_ltP.irrefl] at this
    cases this

/-- The value of the last pair of that key. -/
def lastB : List Pr → ByteArray → Option ByteArray
  | [], _ => none
  | p :: l, k => match lastB l k with | some v => some v | none => if p.1 = k then some p.2 else none
theorem lastB_append (l m : List Pr) (k : ByteArray) : lastB (l ++ m) k = match lastB m k with | some v => some v | none => lastB l k := by
  induction l with
  | nil =>
    show lastB m k = _
    cases lastB m k <;> rfl
  | cons p l ih =>
    show (match lastB (l ++ m) k with | some v => some v | none => if p.1 = k then some p.2 else none) = _
    rw [ih]
    cases lastB m k <;> rfl
theorem lastB_snoc (l : List Pr) (p : Pr) (k : ByteArray) : lastB (l ++ [p]) k = if p.1 = k then some p.2 else lastB l k := by
  rw [lastB_append]
  show (match (if p.1 = k then some p.2 else none : Option ByteArray) with | some v => some v | none => lastB l k) = _
  by_cases h : p.1 = k
  · rw [if_pos h, if_pos h]
  · rw [if_neg h, if_neg h]
theorem lastB_none {l : List Pr} {k : ByteArray} (h : ∀ p ∈ l, p.1 ≠ k) : lastB l k = none := by
  induction l with
  | nil => rfl
  | cons p l ih =>
    show (match lastB l k with | some v => some v | none => if p.1 = k then some p.2 else none) = _
    rw [ih fun q hq => h q (List.mem_cons_of_mem _ hq), if_neg (h p List.mem_cons_self)]
theorem lastB_some {l : List Pr} {k v : ByteArray} (h : lastB l k = some v) : (k, v) ∈ l := by
  induction l with
  | nil => cases h
  | cons p l ih =>
    have h : (match lastB l k with | some v => some v | none => if p.1 = k then some p.2 else none) = some v := h
    cases h2 : lastB l k with
    | some x =>
      rw [h2] at h
      cases h
      exact List.mem_cons_of_mem _ (ih h2)
    | none =>
      rw [h2] at h
      by_cases h3 : p.1 = k
      · simp only [if_pos h3, Option.some.injEq] at h
        rw [show (k, v) = p from Prod.ext h3.symm h.symm]
        exact List.mem_cons_self
      · simp only [if_neg h3] at h
        cases h

/-- What the join of all pairs is. -/
def Merged (all L : List Pr) : Prop := L.Pairwise (fun a b => ltP a b = true) ∧ ∀ p : Pr, p ∈ L ↔ lastB all p.1 = some p.2 ∧ p.2.size ≠ 0
theorem sorted_ext : ∀ (L M : List Pr), L.Pairwise (fun a b => ltP a b = true) → M.Pairwise (fun a b => ltP a b = true) → (∀ p, p ∈ L ↔ p ∈ M) → L = M
  | [], [], _, _, _ => rfl
  | [], y :: M, _, _, h => by have := (h y).2 List.mem_cons_self; cases this
  | x :: L, [], _, _, h => by have := (h x).1 List.mem_cons_self; cases this
  | x :: L, y :: M, hL, hM, h => by
    have hL := List.pairwise_cons.1 hL
    have hM := List.pairwise_cons.1 hM
    have e : x = y := by
      rcases List.mem_cons.1 ((h x).1 List.mem_cons_self) with e | h1
      · exact e
      · rcases List.mem_cons.1 ((h y).2 List.mem_cons_self) with e | h2
        · exact e.symm
        · have := ltP_asym (hM.1 x h1)
          rw [hL.1 y h2] at this
          cases this
    subst e
    rw [sorted_ext L M hL.2 hM.2 fun p => ⟨fun hp => ?_, fun hp => ?_⟩]
    · rcases List.mem_cons.1 ((h p).1 (List.mem_cons_of_mem _ hp)) with e | h1
      · have := hL.1 p hp
        rw [e, swo_ltP.irrefl] at this
        cases this
      · exact h1
    · rcases List.mem_cons.1 ((h p).2 (List.mem_cons_of_mem _ hp)) with e | h1
      · have := hM.1 p hp
        rw [e, swo_ltP.irrefl] at this
        cases this
      · exact h1
theorem Merged.unique {all L M : List Pr} (h : Merged all L) (k : Merged all M) : L = M := sorted_ext L M h.1 k.1 fun p => (h.2 p).trans (k.2 p).symm
open Classical in
/-- The join. -/
noncomputable def mergeV (all : List Pr) : List Pr := if h : ∃ L, Merged all L then Classical.choose h else []
theorem Merged.eq {all L : List Pr} (h : Merged all L) : mergeV all = L := by
  have hx : ∃ L, Merged all L := ⟨L, h⟩
  unfold mergeV
  rw [dif_pos hx]
  exact (Classical.choose_spec hx).unique h
/-- A row sorted by key in which no key stands twice, with the right pairs. -/
theorem merged_of {all : List Pr} {d d' : Array Pr} (hk : (d.toList.map (·.1)).Nodup) (hm : ∀ p : Pr, p ∈ d.toList ↔ lastB all p.1 = some p.2 ∧ p.2.size ≠ 0) (hp : PermIn 0 d.size d d') (hs : SortedIn ltP 0 d.size d') : Merged all d'.toList := by
  obtain ⟨hz, _, hperm⟩ := hp
  have e1 : (d'.extract 0 d.size) = d' := by rw [← hz]; simp
  have e2 : (d.extract 0 d.size) = d := by simp
  rw [e1, e2] at hperm
  have hk' : (d'.toList.map (·.1)).Nodup := (hperm.map (·.1)).nodup_iff.2 hk
  refine ⟨?_, fun p => (hperm.mem_iff).trans (hm p)⟩
  rw [List.pairwise_iff_getElem]
  intro i j hi hj hij
  have hj' : j < d.size := by rw [← hz]; simpa using hj
  have h1 := hs i j (Nat.zero_le _) hij hj'
  have ei : d'[i]! = d'.toList[i] := by
    rw [getElem!_pos d' i (by simpa using hi)]
    simp
  have ej : d'[j]! = d'.toList[j] := by
    rw [getElem!_pos d' j (by simpa using hj)]
    simp
  rw [ei, ej] at h1
  cases h2 : ltP d'.toList[i] d'.toList[j] with
  | true => rfl
  | false =>
    exfalso
    have e := ltP_tot h2 h1
    have hnd := List.pairwise_iff_getElem.1 hk' i j (by simpa using hi) (by simpa using hj) hij
    simp only [List.getElem_map] at hnd
    exact hnd e
theorem merged_tiny {all : List Pr} {L : List Pr} (hl : L.length ≤ 1) (hm : ∀ p : Pr, p ∈ L ↔ lastB all p.1 = some p.2 ∧ p.2.size ≠ 0) : Merged all L := by
  refine ⟨?_, hm⟩
  match L, hl with
  | [], _ => exact List.Pairwise.nil
  | [x], _ => exact List.pairwise_singleton _ _
theorem mergeV_len {all : List Pr} {L : List Pr} (h : Merged all L) : L.length ≤ all.length := by
  have hn : L.Nodup := h.1.imp fun {a b} hab e => by rw [e, swo_ltP.irrefl] at hab; cases hab
  have hs : L ⊆ all := fun p hp => lastB_some ((h.2 p).1 hp).1
  exact hn.length_le_of_subset hs
end Go.Proofs.Ytnnoeckmkjhdbaa
