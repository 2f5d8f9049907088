/-
  Contracts of the functions on names: Up, Split, In, of the program and of the reference.
-/
import Derived.Test.YtnbcbipigiopbaaGreatDoorPkA
import Derived.Test.YtnbcbipigiopbaaGreatDoorShelf
import Derived.PlainAid
import Derived.Lib.LastIndexByte
import Derived.Lib.Strings
import Derived.Test.YtnbcbipigiopbaaGreatDoorPkB
namespace Go.Proofs.YtnbcbipigiopbaaGreatDoor
open Go.RowKit Go.PlainAid

theorem ret_pair {a b c d : ByteArray} (h : a = c) (k : b = d) : Ending.returned (.tuple #[.string a, .string b]) = .returned (.tuple #[.string c, .string d]) := by rw [h, k]
theorem extract_none (s : ByteArray) : s.extract 0 0 = ⟨#[]⟩ := by
  apply ByteArray.ext
  rw [ByteArray.data_extract]
  simp
theorem extract_all (s : ByteArray) : s.extract 0 s.size = s := ByteArray.extract_zero_size
theorem byte_bt (s : ByteArray) (k : Nat) (h : k < s.size) : ((s.data[k]!).toNat : Int) = bt s k := by
  unfold bt
  rw [dif_pos h]
  have h' : k < s.data.size := h
  rw [getElem!_pos s.data k h']
  rfl

/-- The place of the last slash, -1 if there is none. -/
def slashI (s : ByteArray) : Int := Lib.lastIndexByte s 47
theorem slash_lo (s : ByteArray) : -1 ≤ slashI s := by
  rcases Lib.lastIndexByte_spec s 47 with ⟨h, _⟩ | ⟨i, _, h, _⟩ <;> unfold slashI <;> omega
theorem slash_hi (s : ByteArray) : slashI s < s.size := by
  rcases Lib.lastIndexByte_spec s 47 with ⟨h, _⟩ | ⟨i, _, h, _⟩ <;> unfold slashI <;> omega
def upA (s : ByteArray) : ByteArray := s.extract 0 (slashI s).toNat
def upB (s : ByteArray) : ByteArray := s.extract ((slashI s + 1).toNat) s.size

/-! ### In -/
def inB (s d : ByteArray) : Bool := d.toList.isEmpty || s.toList == d.toList || Lib.hasPrefix s.data.toList (d ++ ⟨#[47]⟩ : ByteArray).data.toList

def refInB (s d : ByteArray) : Bool := d.toList.isEmpty || Lib.hasPrefix (s ++ ⟨#[47]⟩ : ByteArray).data.toList (d ++ ⟨#[47]⟩ : ByteArray).data.toList

theorem prefix_slash (l d : List UInt8) : Lib.hasPrefix (l ++ [47]) (d ++ [47]) = (l == d || Lib.hasPrefix l (d ++ [47])) := by
  unfold Lib.hasPrefix
  rw [Bool.eq_iff_iff]
  simp only [List.isPrefixOf_iff_prefix, Bool.or_eq_true, beq_iff_eq]
  constructor
  · rintro ⟨t, ht⟩
    rcases List.eq_nil_or_concat t with rfl | ⟨t, x, rfl⟩
    · simp at ht
      exact .inl ht.symm
    · rw [List.concat_eq_append, ← List.append_assoc] at ht
      have := List.append_inj' ht rfl
      exact .inr ⟨t, this.1⟩
  · rintro (rfl | ⟨t, ht⟩)
    · exact List.prefix_refl _
    · exact ⟨t ++ [47], by rw [← List.append_assoc, ht]⟩

theorem in_eq (s d : ByteArray) : refInB s d = inB s d := by
  unfold refInB inB
  have h1 : (s ++ ⟨#[47]⟩ : ByteArray).data.toList = s.data.toList ++ [47] := by simp
  have h2 : (d ++ ⟨#[47]⟩ : ByteArray).data.toList = d.data.toList ++ [47] := by simp
  rw [h1, h2, prefix_slash, Lib.toList_data, Lib.toList_data]
  cases d.data.toList.isEmpty <;> simp

/-! ### Split -/
theorem find_first {p : Nat → Bool} {n i : Nat} (hi : i < n) (h : p i = true) (hn : ∀ j, j < i → p j = false) : (List.range n).find? p = some i := by
  rw [List.find?_range_eq_some]
  exact ⟨h, by simpa using hi, fun j hj => by simp [hn j hj]⟩
theorem find_none {p : Nat → Bool} {n : Nat} (hn : ∀ j, j < n → p j = false) : (List.range n).find? p = none := by
  rw [List.find?_eq_none]
  intro x hx
  simp [hn x (by simpa using hx)]

def splitOk (s : ByteArray) (i : Nat) : Bool := bt s i == 47 && decide (1 ≤ i) && decide (i ≤ 155) && decide (i + 2 ≤ s.size) && decide (s.size ≤ i + 101)
def splitV (s : ByteArray) : Value :=
  if s.size ≤ 100 then .tuple #[.string ⟨#[]⟩, .string s, .bool true]
  else match (List.range s.size).find? (splitOk s) with
    | some i => .tuple #[.string (s.extract 0 i), .string (s.extract (i + 1) s.size), .bool true]
    | none => .tuple #[.string ⟨#[]⟩, .string ⟨#[]⟩, .bool false]
theorem splitV_small {s : ByteArray} (h : s.size ≤ 100) : splitV s = .tuple #[.string ⟨#[]⟩, .string s, .bool true] := by unfold splitV; rw [if_pos h]
theorem splitV_some {s : ByteArray} {i : Nat} (h : 100 < s.size) (hi : splitOk s i = true) (hn : ∀ j, j < i → splitOk s j = false) :
    splitV s = .tuple #[.string (s.extract 0 i), .string (s.extract (i + 1) s.size), .bool true] := by
  have hi' : i < s.size := by simp [splitOk] at hi; omega
  unfold splitV; rw [if_neg (by omega), find_first hi' hi hn]
theorem splitV_none {s : ByteArray} (h : 100 < s.size) (hn : ∀ j, j < s.size → splitOk s j = false) : splitV s = .tuple #[.string ⟨#[]⟩, .string ⟨#[]⟩, .bool false] := by
  unfold splitV; rw [if_neg (by omega), find_none hn]
theorem splitV_form (s : ByteArray) : ∃ a b c, splitV s = .tuple #[.string a, .string b, .bool c] := by
  unfold splitV
  split
  · exact ⟨_, _, _, rfl⟩
  · split
    · exact ⟨_, _, _, rfl⟩
    · exact ⟨_, _, _, rfl⟩

theorem split_drawn (s : ByteArray) (hs : s.size ≤ 4611686018427387900) (w : World) : Calls Tryz.prog 97 #[.string s] w fun e w' => e = .returned (splitV s) ∧ Drawn w w' := by
  have hb := get_bt s
  by_cases h : s.size ≤ 100
  · have ev := Lib.hid (splitV_small h)
    go_enter Tryz.func97, Tryz.ntmps97
    go_wp2_with fail
    go_ret3
    exact ⟨ret_val (by rw [ev.out]; rfl), ⟨0, rfl⟩⟩
  · have h1 : 100 < s.size := by omega
    clear h
    go_enter Tryz.func97, Tryz.ntmps97
    go_wp2_with fail
    go_loopw [13] (fun i wr => ∃ k : Nat, k ≤ s.size ∧ i = .int .i64 (k : Int) ∧ (∀ j, j < k → splitOk s j = false) ∧ Drawn w wr) (fun i _ => s.size - (intOf i).toNat)
    case atStart => exact ⟨0, by omega, rfl, fun j hj => by omega, ⟨0, rfl⟩⟩
    case round =>
      obtain ⟨k, hk, rfl, hn, hE⟩ := hrel
      have Hn := Lib.hid hn
      clear hn
      have b0 := bt_nonneg s k
      by_cases hlt : k < s.size
      · by_cases hok : splitOk s k = true
        · have Hok := Lib.hid hok
          have hc := hok
          simp only [splitOk, Bool.and_eq_true, beq_iff_eq, decide_eq_true_eq] at hc
          obtain ⟨⟨⟨⟨c1, c2⟩, c3⟩, c4⟩, c5⟩ := hc
          have c1' : (bt s k == 47) = true := by simp [c1]
          have d2 : (1 : Int) ≤ (k : Int) := by omega
          have d3 : (k : Int) ≤ 155 := by omega
          have d4 : (1 : Int) ≤ (s.size : Int) - (k : Int) - 1 := by omega
          have d5 : (s.size : Int) - (k : Int) - 1 ≤ 100 := by omega
          clear c1 hok
          go_wp2_with fail
          refine wp_region_det (Drawn _) (by kernel_rfl) (by kernel_rfl) (Drawn.start _) ?_
          repeat (first
            | (refine det_skip (by rfl) ?_; simp only [Act.put, List.setIfInBounds_toArray, List.set_cons_zero, List.set_cons_succ])
            | (refine det_op (v := ?_) rfl (by rfl) (fun w' hS => ?_) ?_; rotate_left; (focus (obtain ⟨nq, rfl⟩ := hS; go_wp2_with (fail); refine ⟨?_, rfl, _, rfl⟩; (first | (simp only [List.getElem?_toArray, List.getElem?_cons_succ, List.getElem?_cons_zero]; rfl) | rfl))); simp only [Act.put, List.setIfInBounds_toArray, List.set_cons_zero, List.set_cons_succ]))
          refine det_end ?_
          intro w2 hS
          have HS := Lib.hid hS
          clear hS
          go_wp2_with fail
          go_ret3
          exact ⟨ret_val (by rw [splitV_some h1 Hok.out Hn.out]; rfl), hE.trans HS.out⟩
        · have hok' : splitOk s k = false := by simpa using hok
          have Hok := Lib.hid hok'
          clear hok hok'
          go_wp2_with fail
          all_goals first
            | (exfalso; omega)
            | (go_roundw; (case rel => exact ⟨k + 1, by omega, by go_num, noneBelow_succ Hn.out Hok.out, hE⟩); (case measure => simp [intOf]; omega))
            | (exfalso; have := Hok.out; simp [splitOk, *] at this; omega)
      · obtain rfl : k = s.size := by omega
        go_wp2_with fail
        go_ret3
        exact ⟨ret_val (by rw [splitV_none h1 Hn.out]; rfl), hE⟩

theorem refSplit_drawn (s : ByteArray) (hs : s.size ≤ 4611686018427387900) (w : World) : Calls Tryz.prog 83 #[.string s] w fun e w' => e = .returned (splitV s) ∧ Drawn w w' := by
  have hb := get_bt s
  by_cases h : s.size ≤ 100
  · have ev := Lib.hid (splitV_small h)
    go_enter Tryz.func83, Tryz.ntmps83
    go_wp2_with fail
    go_ret3
    exact ⟨ret_val (by rw [ev.out]; rfl), ⟨0, rfl⟩⟩
  · have h1 : 100 < s.size := by omega
    clear h
    have h0 : splitOk s 0 = false := by simp [splitOk]
    have H0 := Lib.hid h0
    clear h0
    go_enter Tryz.func83, Tryz.ntmps83
    go_wp2_with fail
    go_loopw [5] (fun i wr => ∃ k : Nat, 1 ≤ k ∧ k ≤ 156 ∧ k ≤ s.size ∧ i = .int .i64 (k : Int) ∧ (∀ j, j < k → splitOk s j = false) ∧ Drawn w wr) (fun i _ => s.size - (intOf i).toNat)
    case atStart => exact ⟨1, by omega, by omega, by omega, rfl, fun j hj => (by rw [show j = 0 from by omega]; exact H0.out), ⟨0, rfl⟩⟩
    case round =>
      obtain ⟨k, hk1, hk2, hk, rfl, hn, hE⟩ := hrel
      have Hn := Lib.hid hn
      clear hn
      have b0 := bt_nonneg s k
      by_cases hlt : k < s.size ∧ k ≤ 155
      · obtain ⟨hlt, h155⟩ := hlt
        have d3 : (k : Int) ≤ 155 := by omega
        by_cases hok : splitOk s k = true
        · have Hok := Lib.hid hok
          have hc := hok
          simp only [splitOk, Bool.and_eq_true, beq_iff_eq, decide_eq_true_eq] at hc
          obtain ⟨⟨⟨⟨c1, c2⟩, c3⟩, c4⟩, c5⟩ := hc
          have c1' : (bt s k == 47) = true := by simp [c1]
          clear c1 hok
          go_wp2_with ((with_reducible refine (within_yes' ?_ ?_ _).mono ?_); (focus omega); (focus omega); rintro e w1 ⟨rfl, rfl⟩)
          go_ret3
          exact ⟨ret_val (by rw [splitV_some h1 Hok.out Hn.out]; rfl), hE⟩
        · have hok' : splitOk s k = false := by simpa using hok
          have Hok := Lib.hid hok'
          by_cases hc : bt s k = 47
          · have c1' : (bt s k == 47) = true := by simp [hc]
            have h4 : ((s.size - (k + 1) : Nat) : Int) < 1 ∨ 100 < ((s.size - (k + 1) : Nat) : Int) := by
              simp [splitOk, hc] at hok'
              omega
            have H4 := Lib.hid h4
            clear hok hok' hc h4
            go_wp2_with ((with_reducible refine (within_no' H4.out _).mono ?_); rintro e w1 ⟨rfl, rfl⟩)
            go_roundw
            case rel => exact ⟨k + 1, by omega, by omega, by omega, by go_num, noneBelow_succ Hn.out Hok.out, hE⟩
            case measure => simp [intOf]; omega
          · have c1' : (bt s k == 47) = false := by simpa using hc
            clear hok hok' hc
            go_wp2_with fail
            go_roundw
            case rel => exact ⟨k + 1, by omega, by omega, by omega, by go_num, noneBelow_succ Hn.out Hok.out, hE⟩
            case measure => simp [intOf]; omega
      · have hall : Hid (∀ j, j < s.size → splitOk s j = false) := Lib.hid fun j hj => by
          by_cases hjk : j < k
          · exact Hn.out j hjk
          · have h155 : ¬ j ≤ 155 := by omega
            simp [splitOk, h155]
        go_wp2_with fail
        all_goals
          go_ret3
          exact ⟨ret_val (by rw [splitV_none h1 hall.out]; rfl), hE⟩

theorem split_any (s : ByteArray) (hs : s.size ≤ 4611686018427387900) (w : World) : Calls Tryz.prog 97 #[.string s] w fun e w' => e = .returned (splitV s) ∧ Ext w w' :=
  (split_drawn s hs w).mono fun _ _ ⟨h, k⟩ => ⟨h, k.ext⟩
theorem refSplit_any (s : ByteArray) (hs : s.size ≤ 4611686018427387900) (w : World) : Calls Tryz.prog 83 #[.string s] w fun e w' => e = .returned (splitV s) ∧ Ext w w' :=
  (refSplit_drawn s hs w).mono fun _ _ ⟨h, k⟩ => ⟨h, k.ext⟩
end Go.Proofs.YtnbcbipigiopbaaGreatDoor
/-
  Contracts of Named, of the program and of the reference.
-/
namespace Go.Proofs.YtnbcbipigiopbaaGreatDoor
open Go.RowKit
variable (nm lk us gr fr : ByteArray) (kd md ui gi sz tm ma mi : Int) (w : World)

theorem ret_vb {x : Value} {a b : Bool} (h : a = b) : Ending.returned (.tuple #[x, .bool a]) = .returned (.tuple #[x, .bool b]) := by rw [h]
theorem bcell {W w1 : World} (h : Ext W w1) : (∀ b o, b < W.heap.size → w1.cell? ⟨b, o, none⟩ = W.cell? ⟨b, o, none⟩) ∧ (∀ b o, b < W.heap.size → w1.frozen? ⟨b, o, none⟩ = W.frozen? ⟨b, o, none⟩) :=
  ⟨fun b o hb => h.cells b o hb, fun b o hb => h.frozens b o hb⟩

theorem named_any (d : Int) (s a b : ByteArray) (c : Bool) (hs : s.size ≤ 4611686018427387900) (hv : splitV s = .tuple #[.string a, .string b, .bool c]) :
    Calls Tryz.prog 59 #[.agg #[.string nm, .string lk, .string us, .string gr, .string fr, .int .u8 kd, .int .i64 md, .int .i64 ui, .int .i64 gi, .int .i64 sz, .int .i64 tm, .int .i64 ma, .int .i64 mi], .int .i64 d, .string s] w fun e w' => e = .returned (if d = 2 ∨ d = 4 then .tuple #[.agg #[.string b, .string lk, .string us, .string gr, .string a, .int .u8 kd, .int .i64 md, .int .i64 ui, .int .i64 gi, .int .i64 sz, .int .i64 tm, .int .i64 ma, .int .i64 mi], .bool c] else .tuple #[.agg #[.string s, .string lk, .string us, .string gr, .string ⟨#[]⟩, .int .u8 kd, .int .i64 md, .int .i64 ui, .int .i64 gi, .int .i64 sz, .int .i64 tm, .int .i64 ma, .int .i64 mi], .bool (decide (s.size ≤ 100))]) ∧ Ext w w' := by
  have c1 := fun w => split_drawn s hs w
  rw [hv] at c1
  have C1 := Lib.hid c1
  clear c1 hv
  by_cases h : d = 2 ∨ d = 4
  · rw [if_pos h]
    rcases h with rfl | rfl
    all_goals
      go_enter Tryz.func59, Tryz.ntmps59
      go_wp2_with fail
      refine (C1.out _).mono ?_; rintro e w1 ⟨rfl, nq, rfl⟩
      go_wp2_with fail
      go_returns
      exact ⟨rfl, (by show Below _ _ _; repeat' (first | (with_reducible exact Below.refl _ _) | (with_reducible assumption) | (with_reducible refine belowDrewN ?_ _) | (with_reducible refine Below.alloc ?_ ?_ _) | (with_reducible refine Below.drew ?_) | (with_reducible refine Below.setCell ?_ ?_ _) | go_size))⟩
  · rw [if_neg h]
    have h2 : (d == 2) = false := by simp; omega
    have h4 : (d == 4) = false := by simp; omega
    go_enter Tryz.func59, Tryz.ntmps59
    go_wp2_with fail
    go_returns
    exact ⟨ret_vb (by rw [decide_eq_decide]; omega), (by show Below _ _ _; repeat' (first | (with_reducible exact Below.refl _ _) | (with_reducible assumption) | (with_reducible refine belowDrewN ?_ _) | (with_reducible refine Below.alloc ?_ ?_ _) | (with_reducible refine Below.drew ?_) | (with_reducible refine Below.setCell ?_ ?_ _) | go_size))⟩
theorem refNamed_any (d : Int) (s a b : ByteArray) (c : Bool) (hs : s.size ≤ 4611686018427387900) (hv : splitV s = .tuple #[.string a, .string b, .bool c]) :
    Calls Tryz.prog 48 #[.agg #[.string nm, .string lk, .string us, .string gr, .string fr, .int .u8 kd, .int .i64 md, .int .i64 ui, .int .i64 gi, .int .i64 sz, .int .i64 tm, .int .i64 ma, .int .i64 mi], .int .i64 d, .string s] w fun e w' => e = .returned (if d = 2 ∨ d = 4 then .tuple #[.agg #[.string b, .string lk, .string us, .string gr, .string a, .int .u8 kd, .int .i64 md, .int .i64 ui, .int .i64 gi, .int .i64 sz, .int .i64 tm, .int .i64 ma, .int .i64 mi], .bool c] else .tuple #[.agg #[.string s, .string lk, .string us, .string gr, .string ⟨#[]⟩, .int .u8 kd, .int .i64 md, .int .i64 ui, .int .i64 gi, .int .i64 sz, .int .i64 tm, .int .i64 ma, .int .i64 mi], .bool (decide (s.size ≤ 100))]) ∧ Ext w w' := by
  have c1 := fun w => refSplit_drawn s hs w
  rw [hv] at c1
  have C1 := Lib.hid c1
  clear c1 hv
  by_cases h : d = 2 ∨ d = 4
  · rw [if_pos h]
    rcases h with rfl | rfl
    all_goals
      go_enter Tryz.func48, Tryz.ntmps48
      go_wp2_with fail
      refine (C1.out _).mono ?_; rintro e w1 ⟨rfl, nq, rfl⟩
      go_wp2_with fail
      go_returns
      exact ⟨rfl, (by show Below _ _ _; repeat' (first | (with_reducible exact Below.refl _ _) | (with_reducible assumption) | (with_reducible refine belowDrewN ?_ _) | (with_reducible refine Below.alloc ?_ ?_ _) | (with_reducible refine Below.drew ?_) | (with_reducible refine Below.setCell ?_ ?_ _) | go_size))⟩
  · rw [if_neg h]
    have h2 : (d == 2) = false := by simp; omega
    have h4 : (d == 4) = false := by simp; omega
    go_enter Tryz.func48, Tryz.ntmps48
    go_wp2_with fail
    go_returns
    exact ⟨ret_vb (by rw [decide_eq_decide]; omega), (by show Below _ _ _; repeat' (first | (with_reducible exact Below.refl _ _) | (with_reducible assumption) | (with_reducible refine belowDrewN ?_ _) | (with_reducible refine Below.alloc ?_ ?_ _) | (with_reducible refine Below.drew ?_) | (with_reducible refine Below.setCell ?_ ?_ _) | go_size))⟩
end Go.Proofs.YtnbcbipigiopbaaGreatDoor
/-
  block.Fill and the reference's Fill: the text and what is missing up to the end of a block. No conditions but the text's bound.
-/
namespace Go.Proofs.YtnbcbipigiopbaaGreatDoor
open Go.RowKit Go.WideShapes

/-- How many bytes are missing up to the end of a block. -/
def padI (n : Int) : Int := if n < 0 then 0 else (512 - n % 512) % 512

theorem blkPad_any (n : Int) (w : World) : Calls Tryz.prog 121 #[.int .i64 n] w fun e w' => e = .returned (.int .i64 (padI n)) ∧ Ext w w' := by
  by_cases h : n < 0
  · have er : Hid (padI n = 0) := Lib.hid (by unfold padI; rw [if_pos h])
    go_enter Tryz.func121, Tryz.ntmps121
    go_wp2_with fail
    go_ret
    exact ⟨ret_int (by rw [er.out]), (by show Below _ _ _; repeat' (first | (with_reducible exact Below.refl _ _) | (with_reducible assumption) | (with_reducible refine belowDrewN ?_ _) | (with_reducible refine Below.alloc ?_ ?_ _) | (with_reducible refine Below.drew ?_) | (with_reducible refine Below.setCell ?_ ?_ _) | go_size))⟩
  · have er : Hid (padI n = (512 - n % 512) % 512) := Lib.hid (by unfold padI; rw [if_neg h])
    have h0 : 0 ≤ n := by omega
    have h1 : 0 ≤ 512 - n % 512 := by omega
    go_enter Tryz.func121, Tryz.ntmps121
    go_wp2_with fail
    go_ret
    exact ⟨ret_int (by rw [er.out]; omega), (by show Below _ _ _; repeat' (first | (with_reducible exact Below.refl _ _) | (with_reducible assumption) | (with_reducible refine belowDrewN ?_ _) | (with_reducible refine Below.alloc ?_ ?_ _) | (with_reducible refine Below.drew ?_) | (with_reducible refine Below.setCell ?_ ?_ _) | go_size))⟩

theorem refBlkPad_any (n : Int) (hn : n ≤ 1099511627776) (w : World) : Calls Tryz.prog 68 #[.int .i64 n] w fun e w' => e = .returned (.int .i64 (padI n)) ∧ Ext w w' := by
  by_cases h : n ≤ 0
  · have er : Hid (padI n = 0) := Lib.hid (by unfold padI; split <;> omega)
    go_enter Tryz.func68, Tryz.ntmps68
    go_wp2_with fail
    refine wp_loop_rounds 1 ?_
    rw [rounds_succ]
    go_wp2_with fail
    go_ret
    exact ⟨ret_int (by rw [er.out]), (by show Below _ _ _; repeat' (first | (with_reducible exact Below.refl _ _) | (with_reducible assumption) | (with_reducible refine belowDrewN ?_ _) | (with_reducible refine Below.alloc ?_ ?_ _) | (with_reducible refine Below.drew ?_) | (with_reducible refine Below.setCell ?_ ?_ _) | go_size))⟩
  · have er : Hid (padI n = (512 - n % 512) % 512) := Lib.hid (by unfold padI; rw [if_neg (by omega)])
    have h0 : 0 < n := by omega
    go_enter Tryz.func68, Tryz.ntmps68
    go_wp2_with fail
    go_loop [3] (fun k => ∃ j : Nat, (j : Int) ≤ (512 - n % 512) % 512 ∧ k = .int .i64 (j : Int)) (fun k => (512 - intOf k).toNat)
    case atStart => exact ⟨0, by omega, rfl⟩
    case round =>
      obtain ⟨j, hj, rfl⟩ := hrel
      have hj2 : j < 512 := by omega
      have h3 : 0 ≤ n % 512 + (j : Int) := by omega
      by_cases hd : (n % 512 + (j : Int)) % 512 = 0
      · have hb : ((n % 512 + (j : Int)) % 512 != 0) = false := by simp [hd]
        have Hd := Lib.hid hd
        have Hj := Lib.hid hj
        clear hd hj
        go_wp2_with fail
        go_ret
        exact ⟨ret_int (by rw [er.out]; have := Hd.out; have := Hj.out; omega), (by show Below _ _ _; repeat' (first | (with_reducible exact Below.refl _ _) | (with_reducible assumption) | (with_reducible refine belowDrewN ?_ _) | (with_reducible refine Below.alloc ?_ ?_ _) | (with_reducible refine Below.drew ?_) | (with_reducible refine Below.setCell ?_ ?_ _) | go_size))⟩
      · have hb : ((n % 512 + (j : Int)) % 512 != 0) = true := by simpa using hd
        have Hd := Lib.hid hd
        have Hj := Lib.hid hj
        clear hd hj
        go_wp2_with fail
        go_round
        case rel => exact ⟨j + 1, by have := Hd.out; have := Hj.out; omega, by go_num⟩
        case measure => simp [intOf]; omega

def padB (n : Nat) : ByteArray := ⟨(Lib.repeatL [0] (padI n).toNat).toArray⟩
theorem padI_rng (n : Nat) : 0 ≤ padI n ∧ padI n ≤ 511 := by unfold padI; rw [if_neg (by omega)]; omega
theorem padB_size (n : Nat) : (padB n).size ≤ 511 := by
  have := padI_rng n
  have h := Lib.repeatL_length [0] (padI n).toNat
  show (Lib.repeatL [0] (padI n).toNat).toArray.size ≤ _
  rw [List.size_toArray, h]
  simp
  omega
theorem rep_any (n : Nat) (w : World) : Calls Tryz.prog 24 #[.string ⟨#[0]⟩, .int .i64 (padI n)] w fun e w' => e = .returned (.string (padB n)) ∧ Ext w w' := by
  obtain ⟨h0, h1⟩ := padI_rng n
  have e : padI n = ((padI n).toNat : Int) := by omega
  have := Tryz.strings_Repeat ⟨#[0]⟩ (padI n).toNat w (by omega) (by show 1 * _ ≤ _; omega)
  rw [← e] at this
  exact this

set_option maxRecDepth 100000 in
theorem fill_any (s : ByteArray) (hs : s.size ≤ 100000) (w : World) : Calls Tryz.prog 61 #[.string s] w fun e w' => e = .returned (.string (s ++ padB s.size)) ∧ Ext w w' := by
  have C1 := Lib.hid (fun w => blkPad_any s.size w)
  have C2 := Lib.hid (fun w => rep_any s.size w)
  have hz := padB_size s.size
  generalize padB s.size = p at *
  generalize padI s.size = q at *
  go_enter Tryz.func61, Tryz.ntmps61
  go_wp2_with fail
  refine (C1.out _).mono ?_; rintro e w1 ⟨rfl, hx1⟩
  go_wp2_with fail
  refine (C2.out _).mono ?_; rintro e w2 ⟨rfl, hx2⟩
  go_wp2_with fail
  go_ret
  exact ⟨rfl, hx1.trans hx2⟩
set_option maxRecDepth 100000 in
theorem refFill_any (s : ByteArray) (hs : s.size ≤ 100000) (w : World) : Calls Tryz.prog 32 #[.string s] w fun e w' => e = .returned (.string (s ++ padB s.size)) ∧ Ext w w' := by
  have C1 := Lib.hid (fun w => refBlkPad_any s.size (by omega) w)
  have C2 := Lib.hid (fun w => rep_any s.size w)
  have hz := padB_size s.size
  generalize padB s.size = p at *
  generalize padI s.size = q at *
  go_enter Tryz.func32, Tryz.ntmps32
  go_wp2_with fail
  refine (C1.out _).mono ?_; rintro e w1 ⟨rfl, hx1⟩
  go_wp2_with fail
  refine (C2.out _).mono ?_; rintro e w2 ⟨rfl, hx2⟩
  go_wp2_with fail
  go_ret
  exact ⟨rfl, hx1.trans hx2⟩

end Go.Proofs.YtnbcbipigiopbaaGreatDoor
