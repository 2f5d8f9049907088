/-
  Contracts of the functions on names: Up, Split, In, of the program and of the reference.
-/
import Derived.Test.YtmpcnjjibfcfmaaDoorNum
import Derived.Test.YtmpcnjjibfcfmaaDoorShelf
import Derived.PlainAid
import Derived.Lib.LastIndexByte
import Derived.Lib.Strings
namespace Go.Proofs.YtmpcnjjibfcfmaaDoor
open Go.RowKit Go.PlainAid

theorem ret_pair {a b c d : ByteArray} (h : a = c) (k : b = d) : Ending.returned (.tuple #[.string a, .string b]) = .returned (.tuple #[.string c, .string d]) := by rw [h, k]
theorem extract_none (s : ByteArray) : s.extract 0 0 = ⟨#[]⟩ := by
  apply ByteArray.ext
  rw [ByteArray.data_extract]
  simp
theorem extract_all (s : ByteArray) : s.extract 0 s.size = s := ByteArray.extract_zero_size
theorem byte_bt (s : ByteArray) (k : Nat) (h : k < s.size) : ((s.data[k]!).toNat : Int) = bt s k := by
  unfold bt
  rw [dif_pos h]
  have h' : k < s.data.size := h
  rw [getElem!_pos s.data k h']
  rfl

/-- The place of the last slash, -1 if there is none. -/
def slashI (s : ByteArray) : Int := Lib.lastIndexByte s 47
theorem slash_lo (s : ByteArray) : -1 ≤ slashI s := by
  rcases Lib.lastIndexByte_spec s 47 with ⟨h, _⟩ | ⟨i, _, h, _⟩ <;> unfold slashI <;> omega
theorem slash_hi (s : ByteArray) : slashI s < s.size := by
  rcases Lib.lastIndexByte_spec s 47 with ⟨h, _⟩ | ⟨i, _, h, _⟩ <;> unfold slashI <;> omega
def upA (s : ByteArray) : ByteArray := s.extract 0 (slashI s).toNat
def upB (s : ByteArray) : ByteArray := s.extract ((slashI s + 1).toNat) s.size

theorem pathUp_any (s : ByteArray) (hs : s.size ≤ 4611686018427387900) (w : World) : Calls Tryd.prog 65 #[.string s] w fun e w' => e = .returned (.tuple #[.string (upA s), .string (upB s)]) ∧ Ext w w' := by
  have hc := fun w => Tryd.strings_LastIndexByte s 47 (by omega) w
  have ea : Hid (upA s = s.extract 0 (slashI s).toNat) := Lib.hid rfl
  have eb : Hid (upB s = s.extract ((slashI s + 1).toNat) s.size) := Lib.hid rfl
  rw [show Lib.lastIndexByte s 47 = slashI s from rfl] at hc
  have lo := slash_lo s
  have hi := slash_hi s
  have Hc := Lib.hid hc
  clear hc
  generalize slashI s = i at *
  rcases (show i = -1 ∨ ∃ k : Nat, i = (k : Int) from by by_cases h : i = -1; exact .inl h; exact .inr ⟨i.toNat, by omega⟩) with rfl | ⟨k, rfl⟩
  · have hm : max (-1 : Int) 0 = 0 := rfl
    go_enter Tryd.func65, Tryd.ntmps65
    go_wp2_with fail
    refine (Hc.out _).mono ?_; rintro e w1 ⟨rfl, rfl⟩
    go_wp2_with fail
    refine wp_region_det (Stood _) (by kernel_rfl) (by kernel_rfl) (Stood.start _) ?_
    repeat (first
      | (refine det_skip (by rfl) ?_; simp only [Act.put, List.setIfInBounds_toArray, List.set_cons_zero, List.set_cons_succ])
      | (refine det_op (v := ?_) rfl (by rfl) (fun w' hS => ?_) ?_; rotate_left; (focus (obtain ⟨hcl, hxt⟩ := hS; go_wp2_with (fail); (first | refine ⟨?_, rfl, hcl, hxt⟩ | refine ⟨?_, rfl, Stood.of (hxt.trans (by assumption))⟩); rfl)); simp only [Act.put, List.setIfInBounds_toArray, List.set_cons_zero, List.set_cons_succ]))
    refine det_end ?_
    intro w2 hS
    have hx := hS.2
    clear hS
    go_wp2_with fail
    go_ret2
    exact ⟨ret_pair (by rw [ea.out]; exact (extract_none s).symm) (by rw [eb.out]; exact (extract_all s).symm), hx⟩
  · have hk1 : k ≤ s.size := by omega
    have hk2 : k + 1 ≤ s.size := by omega
    have hm : max (k : Int) 0 = k := by omega
    go_enter Tryd.func65, Tryd.ntmps65
    go_wp2_with fail
    refine (Hc.out _).mono ?_; rintro e w1 ⟨rfl, rfl⟩
    go_wp2_with fail
    refine wp_region_det (Stood _) (by kernel_rfl) (by kernel_rfl) (Stood.start _) ?_
    repeat (first
      | (refine det_skip (by rfl) ?_; simp only [Act.put, List.setIfInBounds_toArray, List.set_cons_zero, List.set_cons_succ])
      | (refine det_op (v := ?_) rfl (by rfl) (fun w' hS => ?_) ?_; rotate_left; (focus (obtain ⟨hcl, hxt⟩ := hS; go_wp2_with (fail); (first | refine ⟨?_, rfl, hcl, hxt⟩ | refine ⟨?_, rfl, Stood.of (hxt.trans (by assumption))⟩); rfl)); simp only [Act.put, List.setIfInBounds_toArray, List.set_cons_zero, List.set_cons_succ]))
    refine det_end ?_
    intro w2 hS
    have hx := hS.2
    clear hS
    go_wp2_with fail
    go_ret2
    exact ⟨ret_pair (by rw [ea.out]; rfl) (by rw [eb.out]; rfl), hx⟩

theorem refUp_any (s : ByteArray) (hs : s.size ≤ 4611686018427387900) (w : World) : Calls Tryd.prog 63 #[.string s] w fun e w' => e = .returned (.tuple #[.string (upA s), .string (upB s)]) ∧ Ext w w' := by
  have ea : Hid (upA s = s.extract 0 (Lib.lastIdx s 47 s.size).toNat) := Lib.hid rfl
  have eb : Hid (upB s = s.extract ((Lib.lastIdx s 47 s.size + 1).toNat) s.size) := Lib.hid rfl
  have hb := get_bt s
  go_enter Tryd.func63, Tryd.ntmps63
  go_wp2_with fail
  go_loopw [4] (fun i wr => ∃ k : Nat, k ≤ s.size ∧ i = .int .i64 ((k : Int) - 1) ∧ Lib.lastIdx s 47 k = Lib.lastIdx s 47 s.size ∧ Ext w wr) (fun i _ => (intOf i + 1).toNat)
  case atStart => exact ⟨s.size, Nat.le_refl _, by go_num, rfl, Ext.refl _⟩
  case round =>
    obtain ⟨k, hk, rfl, hl, hE⟩ := hrel
    have Hl := Lib.hid hl
    clear hl
    cases k with
    | zero =>
      go_wp2_with fail
      go_ret2
      exact ⟨ret_pair (by rw [ea.out, ← Hl.out]; exact (extract_none s).symm) (by rw [eb.out, ← Hl.out]; exact (extract_all s).symm), hE⟩
    | succ k =>
      have hlt : k < s.size := by omega
      have hq := byte_bt s k hlt
      have Hq := Lib.hid hq
      clear hq
      have b0 := bt_nonneg s k
      have e1 : ((k + 1 : Nat) : Int) - 1 = k := by omega
      by_cases hc : bt s k = 47
      · have Hk : Hid (Lib.lastIdx s 47 s.size = k) := Lib.hid (by rw [← Hl.out]; exact Lib.lastIdx_hit _ _ _ (by rw [Hq.out, hc]))
        have hc1 : (bt s k == 47) = true := by simp [hc]
        have hk1 : k ≤ s.size := by omega
        have hk2 : k + 1 ≤ s.size := by omega
        clear hc
        go_wp2_with fail
        refine wp_region_det (Stood _) (by kernel_rfl) (by kernel_rfl) (Stood.start _) ?_
        repeat (first
          | (refine det_skip (by rfl) ?_; simp only [Act.put, List.setIfInBounds_toArray, List.set_cons_zero, List.set_cons_succ])
          | (refine det_op (v := ?_) rfl (by rfl) (fun w' hS => ?_) ?_; rotate_left; (focus (obtain ⟨hcl, hxt⟩ := hS; go_wp2_with (fail); (first | refine ⟨?_, rfl, hcl, hxt⟩ | refine ⟨?_, rfl, Stood.of (hxt.trans (by assumption))⟩); rfl)); simp only [Act.put, List.setIfInBounds_toArray, List.set_cons_zero, List.set_cons_succ]))
        refine det_end ?_
        intro w2 hS
        have hx := hS.2
        clear hS
        go_wp2_with fail
        go_ret2
        exact ⟨ret_pair (by rw [ea.out, Hk.out]; rfl) (by rw [eb.out, Hk.out]; rfl), hE.trans hx⟩
      · have Hk : Hid (Lib.lastIdx s 47 k = Lib.lastIdx s 47 s.size) := Lib.hid (by rw [← Hl.out]; exact (Lib.lastIdx_miss _ _ _ (by rw [Hq.out]; exact hc)).symm)
        have hc1 : (bt s k == 47) = false := by simpa using hc
        clear hc
        go_wp2_with fail
        go_roundw
        case rel => exact ⟨k, by omega, by go_num, Hk.out, hE⟩
        case measure => simp [intOf]

/-! ### In -/
def inB (s d : ByteArray) : Bool := d.toList.isEmpty || s.toList == d.toList || Lib.hasPrefix s.data.toList (d ++ ⟨#[47]⟩ : ByteArray).data.toList

def refInB (s d : ByteArray) : Bool := d.toList.isEmpty || Lib.hasPrefix (s ++ ⟨#[47]⟩ : ByteArray).data.toList (d ++ ⟨#[47]⟩ : ByteArray).data.toList

theorem prefix_slash (l d : List UInt8) : Lib.hasPrefix (l ++ [47]) (d ++ [47]) = (l == d || Lib.hasPrefix l (d ++ [47])) := by
  unfold Lib.hasPrefix
  rw [Bool.eq_iff_iff]
  simp only [List.isPrefixOf_iff_prefix, Bool.or_eq_true, beq_iff_eq]
  constructor
  · rintro ⟨t, ht⟩
    rcases List.eq_nil_or_concat t with rfl | ⟨t, x, rfl⟩
    · simp at ht
      exact .inl ht.symm
    · rw [List.concat_eq_append, ← List.append_assoc] at ht
      have := List.append_inj' ht rfl
      exact .inr ⟨t, this.1⟩
  · rintro (rfl | ⟨t, ht⟩)
    · exact List.prefix_refl _
    · exact ⟨t ++ [47], by rw [← List.append_assoc, ht]⟩

theorem in_eq (s d : ByteArray) : refInB s d = inB s d := by
  unfold refInB inB
  have h1 : (s ++ ⟨#[47]⟩ : ByteArray).data.toList = s.data.toList ++ [47] := by simp
  have h2 : (d ++ ⟨#[47]⟩ : ByteArray).data.toList = d.data.toList ++ [47] := by simp
  rw [h1, h2, prefix_slash, Lib.toList_data, Lib.toList_data]
  cases d.data.toList.isEmpty <;> simp

/-! ### Split -/
theorem find_first {p : Nat → Bool} {n i : Nat} (hi : i < n) (h : p i = true) (hn : ∀ j, j < i → p j = false) : (List.range n).find? p = some i := by
  rw [List.find?_range_eq_some]
  exact ⟨h, by simpa using hi, fun j hj => by simp [hn j hj]⟩
theorem find_none {p : Nat → Bool} {n : Nat} (hn : ∀ j, j < n → p j = false) : (List.range n).find? p = none := by
  rw [List.find?_eq_none]
  intro x hx
  simp [hn x (by simpa using hx)]

def splitOk (s : ByteArray) (i : Nat) : Bool := bt s i == 47 && decide (1 ≤ i) && decide (i ≤ 155) && decide (i + 2 ≤ s.size) && decide (s.size ≤ i + 101)
def splitV (s : ByteArray) : Value :=
  if s.size ≤ 100 then .tuple #[.string ⟨#[]⟩, .string s, .bool true]
  else match (List.range s.size).find? (splitOk s) with
    | some i => .tuple #[.string (s.extract 0 i), .string (s.extract (i + 1) s.size), .bool true]
    | none => .tuple #[.string ⟨#[]⟩, .string ⟨#[]⟩, .bool false]
theorem splitV_small {s : ByteArray} (h : s.size ≤ 100) : splitV s = .tuple #[.string ⟨#[]⟩, .string s, .bool true] := by unfold splitV; rw [if_pos h]
theorem splitV_some {s : ByteArray} {i : Nat} (h : 100 < s.size) (hi : splitOk s i = true) (hn : ∀ j, j < i → splitOk s j = false) :
    splitV s = .tuple #[.string (s.extract 0 i), .string (s.extract (i + 1) s.size), .bool true] := by
  have hi' : i < s.size := by simp [splitOk] at hi; omega
  unfold splitV; rw [if_neg (by omega), find_first hi' hi hn]
theorem splitV_none {s : ByteArray} (h : 100 < s.size) (hn : ∀ j, j < s.size → splitOk s j = false) : splitV s = .tuple #[.string ⟨#[]⟩, .string ⟨#[]⟩, .bool false] := by
  unfold splitV; rw [if_neg (by omega), find_none hn]
theorem splitV_form (s : ByteArray) : ∃ a b c, splitV s = .tuple #[.string a, .string b, .bool c] := by
  unfold splitV
  split
  · exact ⟨_, _, _, rfl⟩
  · split
    · exact ⟨_, _, _, rfl⟩
    · exact ⟨_, _, _, rfl⟩

end Go.Proofs.YtmpcnjjibfcfmaaDoor
