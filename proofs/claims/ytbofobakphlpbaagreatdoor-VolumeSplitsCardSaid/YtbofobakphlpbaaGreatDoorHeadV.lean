/-
  A header's bytes, in plain words: fields put into a block of zeros against fields set one behind the other. No program, no conditions.
-/
import Derived.Test.YtbofobakphlpbaaGreatDoorSeal
import Derived.Laws.CopyOwn
namespace Go.Proofs.YtbofobakphlpbaaGreatDoor
open Go.RowKit Go.PlainAid

/-- Is a place in one of the fields? -/
def inF (fs : List (Nat × Nat)) (o : Nat) : Bool := fs.any fun f => decide (f.1 ≤ o) && decide (o < f.1 + f.2)
theorem inF_cons (a n : Nat) (fs : List (Nat × Nat)) (o : Nat) : inF ((a, n) :: fs) o = ((decide (a ≤ o) && decide (o < a + n)) || inF fs o) := rfl
/-- A block with the bytes of T in the fields, and zeros elsewhere. -/
def Filled (T : Nat → UInt8) (fs : List (Nat × Nat)) (L : List UInt8) : Prop := L.length = 512 ∧ ∀ o, o < 512 → L.getD o 0 = if inF fs o then T o else 0

theorem filled_start (T : Nat → UInt8) : Filled T [] (List.replicate 512 0) := ⟨List.length_replicate, fun o h => by
  rw [List.getD_eq_getElem?_getD, List.getElem?_replicate, if_pos h]; rfl⟩
theorem splice_len {L cs : List UInt8} {a : Nat} (h : a + cs.length ≤ L.length) : (splice L a cs).length = L.length := by
  unfold splice
  simp only [List.length_append, List.length_take, List.length_drop]
  omega
theorem splice_get {L cs : List UInt8} {a o : Nat} (h : a + cs.length ≤ L.length) : (splice L a cs).getD o 0 = if a ≤ o ∧ o < a + cs.length then cs.getD (o - a) 0 else L.getD o 0 := by
  unfold splice
  simp only [List.getD_eq_getElem?_getD]
  by_cases h1 : o < a
  · rw [if_neg (by omega), List.getElem?_append_left (by simp; omega), List.getElem?_take, if_pos h1]
  · have hl : (List.take a L).length = a := by simp; omega
    rw [List.getElem?_append_right (by omega), hl]
    by_cases h2 : o < a + cs.length
    · rw [if_pos (by omega), List.getElem?_append_left (by omega)]
    · rw [if_neg (by omega), List.getElem?_append_right (by omega), List.getElem?_drop]
      congr 2
      omega

theorem filled_step {T : Nat → UInt8} {fs : List (Nat × Nat)} {L : List UInt8} (a n : Nat) (s : List UInt8) (h : Filled T fs L) (hs : s.length ≤ n) (hl : a + n ≤ 512)
    (hT : ∀ j, j < n → T (a + j) = s.getD j 0) (hd : ∀ o, a ≤ o → o < a + n → inF fs o = false) : Filled T ((a, n) :: fs) (splice L a s) := by
  refine ⟨by rw [splice_len (by rw [h.1]; omega)]; exact h.1, fun o ho => ?_⟩
  rw [splice_get (by rw [h.1]; omega), inF_cons, h.2 o ho]
  by_cases h1 : a ≤ o
  · by_cases h2 : o < a + n
    · have e := hT (o - a) (by omega)
      rw [show a + (o - a) = o by omega] at e
      rw [hd o h1 h2]
      simp only [decide_eq_true h1, decide_eq_true h2, Bool.and_self, Bool.true_or, if_true, e]
      by_cases h3 : o < a + s.length
      · rw [if_pos ⟨h1, h3⟩]
      · rw [if_neg (by omega)]
        simp only [Bool.false_eq_true, if_false]
        rw [List.getD_eq_getElem?_getD, List.getElem?_eq_none (by omega)]
        rfl
    · simp only [decide_eq_false h2, Bool.and_false, Bool.false_or]
      rw [if_neg (by omega)]
  · simp only [decide_eq_false h1, Bool.false_and, Bool.false_or]
    rw [if_neg (by omega)]

theorem flat_at : ∀ (segs : List (List UInt8)) (i off j : Nat) (F : List UInt8), segs[i]? = some F → ((segs.take i).map List.length).sum = off → j < F.length → segs.flatten.getD (off + j) 0 = F.getD j 0
  | [], i, off, j, F, h, _, _ => by simp at h
  | x :: segs, 0, off, j, F, h, ho, hj => by
    simp at h ho
    subst h ho
    rw [List.flatten_cons, Nat.zero_add, List.getD_eq_getElem?_getD, List.getElem?_append_left hj, List.getD_eq_getElem?_getD]
  | x :: segs, i + 1, off, j, F, h, ho, hj => by
    simp only [List.take_succ_cons, List.map_cons, List.sum_cons] at ho
    have ih := flat_at segs i (off - x.length) j F (by simpa using h) (by omega) hj
    rw [← ih, List.flatten_cons, List.getD_eq_getElem?_getD, List.getElem?_append_right (by omega), List.getD_eq_getElem?_getD]
    congr 2
    omega

theorem bt_getD (s : ByteArray) (k : Nat) : bt s k = ((s.data.toList.getD k 0).toNat : Int) := by
  unfold bt
  split
  · rename_i h
    have h' : k < s.data.toList.length := h
    rw [List.getD_eq_getElem?_getD, List.getElem?_eq_getElem h']
    rfl
  · rename_i h
    have h' : s.data.toList.length ≤ k := Nat.le_of_not_lt h
    rw [List.getD_eq_getElem?_getD, List.getElem?_eq_none h']
    rfl
theorem sumUp_congr (a b : ByteArray) (h : ∀ o, o < 512 → (o < 148 ∨ 156 ≤ o) → a.data.toList.getD o 0 = b.data.toList.getD o 0) : ∀ k, k ≤ 512 → sumUp a false k = sumUp b false k
  | 0, _ => rfl
  | k + 1, hk => by
    simp only [sumUp]
    rw [sumUp_congr a b h k (by omega)]
    congr 1
    unfold sumTerm
    by_cases e : 148 ≤ k ∧ k < 156
    · rw [if_pos e, if_pos e]
    · rw [if_neg e, if_neg e, bt_getD, bt_getD, h k (by omega) (by omega)]
theorem extract_congr (a b : ByteArray) (i j : Nat) (ha : a.size = 512) (hb : b.size = 512) (hj : j ≤ 512) (h : ∀ o, i ≤ o → o < j → a.data.toList.getD o 0 = b.data.toList.getD o 0) : a.extract i j = b.extract i j := by
  apply ByteArray.ext
  rw [ByteArray.data_extract, ByteArray.data_extract]
  apply Array.toList_inj.1
  rw [Array.toList_extract, Array.toList_extract]
  apply List.ext_getElem?
  intro n
  have la : a.data.toList.length = 512 := ha
  have lb : b.data.toList.length = 512 := hb
  rw [List.extract_eq_take_drop, List.extract_eq_take_drop, List.getElem?_take, List.getElem?_take]
  split
  · rw [List.getElem?_drop, List.getElem?_drop]
    have := h (i + n) (by omega) (by omega)
    rw [List.getD_eq_getElem?_getD, List.getD_eq_getElem?_getD, List.getElem?_eq_getElem (by omega), List.getElem?_eq_getElem (by omega)] at this
    rw [List.getElem?_eq_getElem (by omega), List.getElem?_eq_getElem (by omega)]
    exact congrArg some this
  · rfl
theorem seal_congr (a b : ByteArray) (ha : a.size = 512) (hb : b.size = 512) (h : ∀ o, o < 512 → (o < 148 ∨ 156 ≤ o) → a.data.toList.getD o 0 = b.data.toList.getD o 0) : sealS a = sealS b := by
  unfold sealS sumV
  rw [if_pos ha, if_pos hb, if_pos ha, if_pos hb, ha, hb, sumUp_congr a b h 512 (Nat.le_refl _), extract_congr a b 0 148 ha hb (by omega) (fun o h1 h2 => h o (by omega) (by omega)), extract_congr a b 156 512 ha hb (by omega) (fun o h1 h2 => h o (by omega) (by omega))]
theorem filled_seal {T : ByteArray} {fs : List (Nat × Nat)} {L : List UInt8} (h : Filled (fun o => T.data.toList.getD o 0) fs L) (hT : T.size = 512) (h0 : ∀ o, o < 512 → (o < 148 ∨ 156 ≤ o) → inF fs o = false → T.data.toList.getD o 0 = 0) :
    sealS ⟨L.toArray⟩ = sealS T := by
  refine seal_congr _ _ (by show L.toArray.size = 512; simpa using h.1) hT fun o ho ho2 => ?_
  show L.toArray.toList.getD o 0 = _
  rw [List.toList_toArray, h.2 o ho]
  cases e : inF fs o with
  | true => rfl
  | false => exact (h0 o ho ho2 e).symm

/-- The text in its field, as bytes. -/
def padL (s : List UInt8) (n : Nat) : List UInt8 := s ++ List.replicate (n - s.length) 0
theorem padL_len {s : List UInt8} {n : Nat} (h : s.length ≤ n) : (padL s n).length = n := by unfold padL; simp; omega
theorem padL_get (s : List UInt8) (n j : Nat) : (padL s n).getD j 0 = s.getD j 0 := by
  unfold padL
  rw [List.getD_eq_getElem?_getD, List.getD_eq_getElem?_getD]
  by_cases h : j < s.length
  · rw [List.getElem?_append_left h]
  · rw [List.getElem?_append_right (by omega), List.getElem?_replicate, List.getElem?_eq_none (show s.length ≤ j by omega)]
    split <;> rfl
end Go.Proofs.YtbofobakphlpbaaGreatDoor
