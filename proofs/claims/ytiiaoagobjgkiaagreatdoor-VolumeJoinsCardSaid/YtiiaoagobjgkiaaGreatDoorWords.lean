/-
  A text cut at its slashes: the pieces as lists of bytes; the parts of a name. Plain Lean: no conditions.
-/
import Derived.Lib.SplitLaws
import Derived.Lib.Join
namespace Go.Proofs.YtiiaoagobjgkiaaGreatDoor
open Go.Lib

/-- A text, cut at its slashes. -/
def sl : List UInt8 → List (List UInt8)
  | [] => [[]]
  | c :: t => if c = 47 then [] :: sl t else (match sl t with
    | [] => [[c]]
    | h :: r => (c :: h) :: r)
theorem sl_ne : ∀ l, sl l ≠ []
  | [] => by simp [sl]
  | c :: t => by
    unfold sl
    split
    · simp
    · split <;> simp
theorem sl_hit (t : List UInt8) : sl (47 :: t) = [] :: sl t := by simp [sl]
theorem sl_miss {c : UInt8} {t h : List UInt8} {r : List (List UInt8)} (hc : c ≠ 47) (ht : sl t = h :: r) : sl (c :: t) = (c :: h) :: r := by
  rw [sl, if_neg hc, ht]
theorem sl_cases (l : List UInt8) : ∃ h r, sl l = h :: r := by
  cases e : sl l with
  | nil => exact (sl_ne l e).elim
  | cons h r => exact ⟨h, r, rfl⟩

theorem index_cons (b : UInt8) (l : List UInt8) : index (b :: l) [47] = if b = 47 then 0 else if index l [47] = -1 then -1 else index l [47] + 1 := by
  rw [index]
  by_cases h : b = 47
  · subst h; simp [List.isPrefixOf]
  · have h' : ¬ (47 : UInt8) = b := fun e => h e.symm
    have hp : ([47] : List UInt8).isPrefixOf (b :: l) = false := by simp [List.isPrefixOf, h']
    rw [hp]
    simp [h]

theorem sl_index : ∀ l : List UInt8, (index l [47] = -1 → sl l = [l]) ∧ (∀ i : Nat, index l [47] = i → sl l = l.take i :: sl (l.drop (i + 1)))
  | [] => ⟨fun _ => rfl, fun i h => by have : index [] [47] = -1 := rfl; omega⟩
  | b :: l => by
    obtain ⟨h1, h2⟩ := sl_index l
    rw [index_cons]
    by_cases hb : b = 47
    · subst hb
      rw [if_pos rfl]
      refine ⟨fun h => by omega, fun i h => ?_⟩
      obtain rfl : i = 0 := by omega
      rw [sl_hit]; rfl
    · rw [if_neg hb]
      by_cases hm : index l [47] = -1
      · rw [if_pos hm]
        refine ⟨fun _ => ?_, fun i h => by omega⟩
        exact sl_miss hb (h1 hm)
      · rw [if_neg hm]
        have hg := index_ge l [47]
        refine ⟨fun h => by omega, fun i h => ?_⟩
        obtain ⟨j, hj⟩ : ∃ j : Nat, index l [47] = j := ⟨(index l [47]).toNat, by omega⟩
        obtain rfl : i = j + 1 := by omega
        exact sl_miss hb (h2 j hj)

theorem splitK_sl : ∀ (k : Nat) (l : List UInt8), count l [47] = k → splitK [47] 0 k l = sl l
  | 0, l, h => by
    rcases (show index l [47] < 0 ∨ 0 ≤ index l [47] by omega) with hi | hi
    · rw [(sl_index l).1 (by have := index_ge l [47]; omega)]; rfl
    · obtain ⟨j, hj⟩ : ∃ j : Nat, index l [47] = j := ⟨(index l [47]).toNat, by omega⟩
      have := count_hit (by simp) hj
      omega
  | k + 1, l, h => by
    rcases (show index l [47] < 0 ∨ 0 ≤ index l [47] by omega) with hi | hi
    · have hm : index l [47] = -1 := by have := index_ge l [47]; omega
      rw [count_miss hm] at h; omega
    · obtain ⟨j, hj⟩ : ∃ j : Nat, index l [47] = j := ⟨(index l [47]).toNat, by omega⟩
      have hc := count_hit (by simp) hj
      have hne : ¬ (index l [47] == -1) = true := fun e => by have := beq_iff_eq.1 e; omega
      have et : (index l [47]).toNat = j := by omega
      unfold splitK
      rw [if_neg hne, et, (sl_index l).2 j hj]
      simp only [Nat.add_zero, List.length_singleton]
      rw [splitK_sl k _ (by simp at hc; omega)]

/-- The pieces of a text, as strings.Split gives them. -/
def piecesB (s : ByteArray) : List ByteArray := splitB ⟨#[47]⟩ 0 (countB s ⟨#[47]⟩) s
theorem pieces_sl (s : ByteArray) : (piecesB s).map (·.data.toList) = sl s.data.toList := by
  unfold piecesB
  rw [splitB_data]
  exact splitK_sl _ _ rfl
theorem pieces_len (s : ByteArray) : (piecesB s).length = countB s ⟨#[47]⟩ + 1 := splitB_all _ (by decide) 0 _ s rfl
theorem pieces_le (s : ByteArray) : (piecesB s).length ≤ s.size + 1 := by
  have := countB_le ⟨#[47]⟩ (by decide) s.size s (Nat.le_refl _)
  rw [pieces_len]; omega

/-- Cut and joined again, a text is as it was. -/
theorem join_sl (l : List UInt8) : join (sl l) [47] = l := by
  induction l with
  | nil => rfl
  | cons c t ih =>
    obtain ⟨h, r, e⟩ := sl_cases t
    rw [e] at ih
    by_cases hc : c = 47
    · subst hc
      rw [sl_hit, e, join_cons]
      rw [join_cons] at ih
      simp only [joinTail, List.map_cons, List.flatten_cons] at ih ⊢
      simp [← ih]
    · rw [sl_miss hc e, join_cons]
      rw [join_cons] at ih
      simp [← ih]
theorem sl_no47 : ∀ (l : List UInt8) (x : List UInt8), x ∈ sl l → (47 : UInt8) ∉ x
  | [], x, h => by simp [sl] at h; subst h; simp
  | c :: t, x, h => by
    obtain ⟨g, r, e⟩ := sl_cases t
    have ih := sl_no47 t
    rw [e] at ih
    by_cases hc : c = 47
    · subst hc
      rw [sl_hit, e] at h
      rcases List.mem_cons.1 h with rfl | h
      · simp
      · exact ih x h
    · rw [sl_miss hc e] at h
      rcases List.mem_cons.1 h with rfl | h
      · have := ih g (by simp)
        simp only [List.mem_cons, not_or]
        exact ⟨fun e => hc e.symm, this⟩
      · exact ih x (by simp [h])
/-- Pieces without slashes, joined and cut again. -/
theorem sl_append (x l : List UInt8) (hx : (47 : UInt8) ∉ x) : sl (x ++ 47 :: l) = x :: sl l := by
  induction x with
  | nil => exact sl_hit l
  | cons c t ih =>
    simp only [List.mem_cons, not_or] at hx
    exact sl_miss (fun e => hx.1 e.symm) (ih hx.2)
theorem sl_one (x : List UInt8) (hx : (47 : UInt8) ∉ x) : sl x = [x] := by
  induction x with
  | nil => rfl
  | cons c t ih =>
    simp only [List.mem_cons, not_or] at hx
    exact sl_miss (fun e => hx.1 e.symm) (ih hx.2)
theorem sl_join : ∀ (xs : List (List UInt8)), xs ≠ [] → (∀ x ∈ xs, (47 : UInt8) ∉ x) → sl (join xs [47]) = xs
  | [], h, _ => (h rfl).elim
  | [x], _, hx => by rw [join_one]; exact sl_one x (hx x (by simp))
  | x :: y :: r, _, hx => by
    have ih := sl_join (y :: r) (by simp) (fun z hz => hx z (by simp [hz]))
    have e : join (x :: y :: r) [47] = x ++ 47 :: join (y :: r) [47] := by
      rw [join_cons, join_cons]; simp [joinTail]
    rw [e, sl_append x _ (hx x (by simp)), ih]

/-- A part: neither empty nor a point. -/
def keepL (x : List UInt8) : Bool := !(x == [] || x == [46])
def keepB (x : ByteArray) : Bool := keepL x.data.toList
/-- The parts of a name. -/
def partsB (s : ByteArray) : List ByteArray := (piecesB s).filter keepB
def partsL (l : List UInt8) : List (List UInt8) := (sl l).filter keepL
theorem parts_list (s : ByteArray) : (partsB s).map (·.data.toList) = partsL s.data.toList := by
  unfold partsB partsL
  rw [← pieces_sl, List.filter_map]
  rfl
theorem parts_le (s : ByteArray) : (partsB s).length ≤ s.size + 1 := Nat.le_trans (List.length_filter_le _ _) (pieces_le s)
theorem join_len (xs : List (List UInt8)) (n : Nat) (h : ∀ x ∈ xs, x.length ≤ n) : (join xs [47]).length ≤ xs.length * (n + 1) := by
  match xs with
  | [] => simp [join_nil]
  | x :: r =>
    rw [join_cons]
    have ht : (joinTail [47] r).length ≤ r.length * (n + 1) := by
      have : ∀ r : List (List UInt8), (∀ x ∈ r, x.length ≤ n) → (joinTail [47] r).length ≤ r.length * (n + 1) := by
        intro r
        induction r with
        | nil => intro _; simp [joinTail]
        | cons y t ih =>
          intro hy
          have h1 := hy y (by simp)
          have h2 := ih (fun z hz => hy z (by simp [hz]))
          simp only [joinTail, List.map_cons, List.flatten_cons, List.length_append, List.length_cons, List.length_nil] at h2 ⊢
          rw [Nat.succ_mul]; omega
      exact this r (fun z hz => h z (by simp [hz]))
    have h1 := h x (by simp)
    simp only [List.length_append, List.length_cons]
    rw [Nat.succ_mul]; omega
theorem sl_piece_len : ∀ (l x : List UInt8), x ∈ sl l → x.length ≤ l.length
  | [], x, h => by simp [sl] at h; subst h; simp
  | c :: t, x, h => by
    obtain ⟨g, r, e⟩ := sl_cases t
    have ih := sl_piece_len t
    rw [e] at ih
    by_cases hc : c = 47
    · subst hc
      rw [sl_hit, e] at h
      rcases List.mem_cons.1 h with rfl | h
      · simp
      · have := ih x h; simp; omega
    · rw [sl_miss hc e] at h
      rcases List.mem_cons.1 h with rfl | h
      · have := ih g (by simp); simp; omega
      · have := ih x (by simp [h]); simp; omega
theorem piece_size {s x : ByteArray} (h : x ∈ piecesB s) : x.size ≤ s.size := by
  have : x.data.toList ∈ sl s.data.toList := by rw [← pieces_sl]; exact List.mem_map_of_mem h
  have := sl_piece_len _ _ this
  simpa using this
theorem part_size {s x : ByteArray} (h : x ∈ partsB s) : x.size ≤ s.size := piece_size (List.mem_filter.1 h).1
end Go.Proofs.YtiiaoagobjgkiaaGreatDoor
