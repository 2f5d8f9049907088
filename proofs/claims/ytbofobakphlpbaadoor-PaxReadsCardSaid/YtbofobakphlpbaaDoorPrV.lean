/-
  The record with which a text begins, in plain words: there is one at most. No program, no conditions.
-/
import Derived.Test.YtbofobakphlpbaaDoorCutL
import Derived.Test.YtbofobakphlpbaaDoorBt
import Derived.Test.YtbofobakphlpbaaDoorRecR
import Derived.Test.YtbofobakphlpbaaDoorWrs
namespace Go.Proofs.YtbofobakphlpbaaDoor
open Go.RowKit

/-- The first n bytes are the record of a valid pair. -/
def HasRec (u : ByteArray) (k v : ByteArray) (n : Nat) : Prop := pairB k v = true ∧ n ≤ u.size ∧ u.extract 0 n = recB k v

theorem rec_data (k v : ByteArray) : (recB k v).data.toList = Lib.decDigits (recN (k.size + v.size + 3)) ++ 32 :: (k.data.toList ++ 61 :: (v.data.toList ++ [10])) := by
  unfold recB
  simp [ByteArray.data_append]
theorem pair_key {k v : ByteArray} (h : pairB k v = true) : 1 ≤ k.size ∧ 61 ∉ k.data.toList ∧ 10 ∉ k.data.toList ∧ k.size + v.size ≤ 200 := by
  have hl := pairB_len h
  unfold pairB at h
  simp only [Bool.and_eq_true, Bool.not_eq_true', decide_eq_true_eq] at h
  obtain ⟨⟨h1, h2⟩, _⟩ := h
  unfold anyB at h2
  rw [Bool.or_eq_false_iff, decide_eq_false_iff_not, decide_eq_false_iff_not] at h2
  have hc : ∀ c : UInt8, ¬ 0 ≤ Lib.indexByte k.data.toList c → c ∉ k.data.toList := fun c hn hm => by
    obtain ⟨a, b, e1, e2⟩ := List.eq_append_cons_of_mem hm
    rw [e1, ixb_app e2] at hn
    omega
  refine ⟨?_, hc 61 h2.1, hc 10 h2.2, hl⟩
  rw [ByteArray.toList_eq] at h1
  have e : k.size = k.data.toList.length := rfl
  rw [e]
  cases hk : k.data.toList with
  | nil => rw [hk] at h1; cases h1
  | cons x t => simp
theorem sp_digits (n : Nat) : (32 : UInt8) ∉ Lib.decDigits n := fun h => absurd (digits_mem n _ h).1 (by decide)
theorem eq_digits (n : Nat) : (61 : UInt8) ∉ Lib.decDigits n := fun h => absurd (digits_mem n _ h).2 (by decide)

/-- A text that begins with a record, taken apart. -/
theorem rec_parts {u k v : ByteArray} {n : Nat} (h : HasRec u k v n) : n = recN (k.size + v.size + 3) ∧ n ≤ 206 ∧ (Lib.decDigits n).length ≤ 3 ∧ n = (Lib.decDigits n).length + (k.size + v.size + 3) ∧
    u.data.toList = Lib.decDigits n ++ 32 :: (k.data.toList ++ 61 :: (v.data.toList ++ 10 :: u.data.toList.drop n)) := by
  obtain ⟨h1, h2, h3⟩ := h
  obtain ⟨a1, a2, a3, a4⟩ := pair_key h1
  have hs := recB_size k v (by omega)
  have hn : n = recN (k.size + v.size + 3) := by
    rw [← hs, ← h3, ByteArray.size_extract]
    omega
  have hd := dN_fix (k.size + v.size + 3) (by omega)
  have hd3 : dN (k.size + v.size + 3) ≤ 3 := by unfold dN; split <;> (try split) <;> omega
  rw [← hn] at hd
  have hr : n = k.size + v.size + 3 + dN (k.size + v.size + 3) := hn
  refine ⟨hn, by omega, by omega, by omega, ?_⟩
  have e1 : (u.extract 0 n).data.toList = u.data.toList.take n := by rw [b_ext]; simp
  have e2 : u.data.toList = u.data.toList.take n ++ u.data.toList.drop n := (List.take_append_drop _ _).symm
  conv => lhs; rw [e2, ← e1, h3, rec_data, ← hn]
  simp
theorem rec_uniq {u k v k' v' : ByteArray} {n n' : Nat} (h : HasRec u k v n) (h' : HasRec u k' v' n') : k = k' ∧ v = v' ∧ n = n' := by
  obtain ⟨_, _, _, _, p5⟩ := rec_parts h
  obtain ⟨_, _, _, _, q5⟩ := rec_parts h'
  obtain ⟨a1, a2, a3, a4⟩ := pair_key h.1
  obtain ⟨b1, b2, b3, b4⟩ := pair_key h'.1
  have e := app_cons_inj (sp_digits n) (sp_digits n') (p5.symm.trans q5)
  obtain rfl := digits_inj e.1
  have e2 := h.2.2.symm.trans h'.2.2
  have e3 := congrArg (fun x : ByteArray => x.data.toList) e2
  simp only [rec_data] at e3
  obtain ⟨-, e4⟩ := app_cons_inj (sp_digits _) (sp_digits _) e3
  obtain ⟨e5, e6⟩ := app_cons_inj a2 b2 e4
  exact ⟨b_eq e5, b_eq (List.append_cancel_right e6), rfl⟩

/-- What the program reads of a text that begins with a record. -/
theorem rec_read {u k v : ByteArray} {n : Nat} (h : HasRec u k v n) : ∃ r, Lib.cut (u.extract 0 (min u.size 6)).data.toList [32] = (Lib.decDigits n, r, true) ∧
    Lib.cut (u.extract ((Lib.decDigits n).length + 1) (n - 1)).data.toList [61] = (k.data.toList, v.data.toList, true) := by
  obtain ⟨p1, p2, p3, p4, p5⟩ := rec_parts h
  obtain ⟨a1, a2, a3, a4⟩ := pair_key h.1
  obtain ⟨R, hR⟩ : ∃ R, R = k.data.toList ++ 61 :: (v.data.toList ++ 10 :: u.data.toList.drop n) := ⟨_, rfl⟩
  have hsz : u.size = u.data.toList.length := rfl
  refine ⟨R.take (min u.size 6 - ((Lib.decDigits n).length + 1)), ?_, ?_⟩
  · have e : (u.extract 0 (min u.size 6)).data.toList = Lib.decDigits n ++ 32 :: R.take (min u.size 6 - ((Lib.decDigits n).length + 1)) := by
      rw [b_ext, p5, ← hR, List.drop_zero, List.take_append, List.take_of_length_le (by have := h.2.1; omega)]
      congr 1
      have hh : min u.size 6 - 0 - (Lib.decDigits n).length = (min u.size 6 - ((Lib.decDigits n).length + 1)) + 1 := by have := h.2.1; omega
      rw [hh, List.take_succ_cons]
    rw [e, cut_app (sp_digits n)]
  · have e : (u.extract ((Lib.decDigits n).length + 1) (n - 1)).data.toList = k.data.toList ++ 61 :: v.data.toList := by
      rw [b_ext, p5]
      have hh : Lib.decDigits n ++ 32 :: (k.data.toList ++ 61 :: (v.data.toList ++ 10 :: u.data.toList.drop n)) = (Lib.decDigits n ++ [32]) ++ ((k.data.toList ++ 61 :: v.data.toList) ++ 10 :: u.data.toList.drop n) := by simp
      have hl : (Lib.decDigits n).length + 1 = (Lib.decDigits n ++ [32]).length := by simp
      rw [hh, hl, List.drop_left]
      have hl2 : n - 1 - (Lib.decDigits n ++ [32]).length = (k.data.toList ++ 61 :: v.data.toList).length := by
        have hk : k.data.toList.length = k.size := rfl
        have hv : v.data.toList.length = v.size := rfl
        simp only [List.length_append, List.length_cons, List.length_nil, hk, hv]
        omega
      rw [hl2, List.take_left]
    rw [e, cut_app a2]

/-- What the reference reads of it. -/
theorem rec_ref {u k v : ByteArray} {n : Nat} (h : HasRec u k v n) : ∃ i j : Nat, Lib.indexByte (u.extract 0 n).data.toList 32 = (i : Int) ∧ Lib.indexByte (u.extract 0 n).data.toList 61 = (j : Int) ∧ i < j ∧ j + 1 < n ∧
    u.data.toList[n - 1]? = some 10 ∧ u.extract (i + 1) j = k ∧ u.extract (j + 1) (n - 1) = v := by
  obtain ⟨p1, p2, p3, p4, p5⟩ := rec_parts h
  obtain ⟨a1, a2, a3, a4⟩ := pair_key h.1
  have hk : k.data.toList.length = k.size := rfl
  have hv : v.data.toList.length = v.size := rfl
  have e0 : (u.extract 0 n).data.toList = Lib.decDigits n ++ 32 :: (k.data.toList ++ 61 :: (v.data.toList ++ [10])) := by rw [h.2.2, rec_data, ← p1]
  have e1 : Lib.decDigits n ++ 32 :: (k.data.toList ++ 61 :: (v.data.toList ++ [10])) = (Lib.decDigits n ++ 32 :: k.data.toList) ++ 61 :: (v.data.toList ++ [10]) := by simp
  have hn : (61 : UInt8) ∉ Lib.decDigits n ++ 32 :: k.data.toList := by
    rw [List.mem_append, List.mem_cons]
    rintro (h | h | h)
    · exact eq_digits n h
    · exact absurd h (by decide)
    · exact a2 h
  have hl : (Lib.decDigits n ++ 32 :: k.data.toList).length = (Lib.decDigits n).length + 1 + k.size := by
    rw [List.length_append, List.length_cons, hk]; omega
  refine ⟨(Lib.decDigits n).length, (Lib.decDigits n).length + 1 + k.size, ?_, ?_, by omega, by omega, ?_, ?_, ?_⟩
  · rw [e0, ixb_app (sp_digits n)]
  · rw [e0, e1, ixb_app hn, hl]
  · have e2 : u.data.toList = ((Lib.decDigits n ++ 32 :: k.data.toList) ++ 61 :: v.data.toList) ++ 10 :: u.data.toList.drop n := by
      conv => lhs; rw [p5]
      simp
    have hl2 : ((Lib.decDigits n ++ 32 :: k.data.toList) ++ 61 :: v.data.toList).length = n - 1 := by
      rw [List.length_append, hl, List.length_cons, hv]; omega
    rw [e2, List.getElem?_append_right (by omega), hl2]
    simp
  · refine b_eq ?_
    rw [b_ext]
    have e2 : u.data.toList = (Lib.decDigits n ++ [32]) ++ (k.data.toList ++ 61 :: (v.data.toList ++ 10 :: u.data.toList.drop n)) := by
      conv => lhs; rw [p5]
      simp
    have hl2 : (Lib.decDigits n).length + 1 = (Lib.decDigits n ++ [32]).length := by simp
    rw [e2, hl2, List.drop_left]
    have hl3 : (Lib.decDigits n ++ [32]).length + k.size - (Lib.decDigits n ++ [32]).length = k.data.toList.length := by omega
    rw [hl3, List.take_left]
  · refine b_eq ?_
    rw [b_ext]
    have e2 : u.data.toList = ((Lib.decDigits n ++ 32 :: k.data.toList) ++ [61]) ++ (v.data.toList ++ 10 :: u.data.toList.drop n) := by
      conv => lhs; rw [p5]
      simp
    have hl2 : (Lib.decDigits n).length + 1 + k.size + 1 = ((Lib.decDigits n ++ 32 :: k.data.toList) ++ [61]).length := by
      rw [List.length_append, hl]; rfl
    rw [e2, hl2, List.drop_left]
    have hl3 : n - 1 - ((Lib.decDigits n ++ 32 :: k.data.toList) ++ [61]).length = v.data.toList.length := by
      rw [← hl2]; omega
    rw [hl3, List.take_left]
end Go.Proofs.YtbofobakphlpbaaDoor
