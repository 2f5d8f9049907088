/-
  strings.ContainsAny at the two bytes '=' and a line's end, for every text.
-/
import Derived.Test.YtbofobakphlpbaaDoorNum
import Derived.Test.YtbofobakphlpbaaDoorShelf
import Derived.Test.YtbofobakphlpbaaDoorDet
import Derived.Laws.RangeAny
import Derived.Lib.DecodeN
import Derived.Laws.Runes
import Derived.Deep.LoopGhost
import Derived.Lib.IndexAny
import Derived.PlainAid
import Derived.Lib.OthersKept
namespace Go.Proofs.YtbofobakphlpbaaDoor
open Go.RowKit Go.PlainAid

/-- The two bytes. -/
def eqNl : ByteArray := ⟨#[61, 10]⟩
theorem decode_facts (n b0 b1 b2 b3 : Nat) (h0 : b0 < 256) (h1 : b1 < 256) (h2 : b2 < 256) (h3 : b3 < 256) :
    ((Lib.decodeN n b0 b1 b2 b3).1 < 55296 ∨ (57343 < (Lib.decodeN n b0 b1 b2 b3).1 ∧ (Lib.decodeN n b0 b1 b2 b3).1 ≤ 1114111)) ∧
    (2 ≤ (Lib.decodeN n b0 b1 b2 b3).2 → 128 ≤ b1 ∧ 1 < n) ∧ (3 ≤ (Lib.decodeN n b0 b1 b2 b3).2 → 128 ≤ b2 ∧ 2 < n) ∧ (4 ≤ (Lib.decodeN n b0 b1 b2 b3).2 → 128 ≤ b3 ∧ 3 < n) ∧ (Lib.decodeN n b0 b1 b2 b3).2 ≤ 4 := by
  unfold Lib.decodeN
  repeat' split
  all_goals (simp only; omega)

theorem getBang (s : ByteArray) (j : Nat) (h : j < s.size) : s.get! j = s[j]'h := by
  have := Go.get_at s j h
  simpa using this
/-- A character that is not ASCII: its code, and that its bytes are none of the two. -/
theorem decode_skip (s : ByteArray) (i : Nat) (h : i < s.size) (ha : 128 ≤ (s[i]'h).toNat) :
    128 ≤ ((Utf8.decode s i).1 : Int) ∧ (((Utf8.decode s i).1 : Int) < 55296 ∨ (57343 < ((Utf8.decode s i).1 : Int) ∧ ((Utf8.decode s i).1 : Int) ≤ 1114111)) ∧ 1 ≤ (Utf8.decode s i).2 ∧ i + (Utf8.decode s i).2 ≤ s.size ∧
    (Lib.NoAny s.data.toList [61, 10] i → Lib.NoAny s.data.toList [61, 10] (i + (Utf8.decode s i).2)) := by
  obtain ⟨d1, d2⟩ := Go.decode_high s i h ha
  have hb : ∀ k, (s.get! (i + k)).toNat < 256 := fun k => (s.get! (i + k)).toNat_lt
  have hf := decode_facts (s.size - i) (s.get! i).toNat (s.get! (i + 1)).toNat (s.get! (i + 2)).toNat (s.get! (i + 3)).toNat (hb 0) (hb 1) (hb 2) (hb 3)
  rw [← Lib.decode_at] at hf
  obtain ⟨f1, f2, f3, f4, f5⟩ := hf
  generalize (Utf8.decode s i).1 = c at *
  generalize (Utf8.decode s i).2 = d at *
  have hlen : i + d ≤ s.size := by
    rcases (show d = 1 ∨ d = 2 ∨ d = 3 ∨ d = 4 by omega) with rfl | rfl | rfl | rfl
    · omega
    · have := (f2 (by omega)).2; omega
    · have := (f3 (by omega)).2; omega
    · have := (f4 (by omega)).2; omega
  have hhigh : ∀ j, i ≤ j → j < i + d → ∀ hj : j < s.size, 128 ≤ (s[j]'hj).toNat := fun j hj1 hj2 hj => by
    rcases (show j = i ∨ j = i + 1 ∨ j = i + 2 ∨ j = i + 3 by omega) with rfl | rfl | rfl | rfl
    · exact ha
    · rw [← getBang s _ hj]; exact (f2 (by omega)).1
    · rw [← getBang s _ hj]; exact (f3 (by omega)).1
    · rw [← getBang s _ hj]; exact (f4 (by omega)).1
  refine ⟨by omega, by omega, d2, hlen, fun hno j b hj hjb => ?_⟩
  rcases Nat.lt_or_ge j i with h1 | h1
  · exact hno j b h1 hjb
  · have hjs : j < s.size := by omega
    have hg := hhigh j h1 hj hjs
    have e : s.data.toList[j]? = some (s[j]'hjs) := by
      have : j < s.data.toList.length := hjs
      rw [List.getElem?_eq_getElem this]
      rfl
    rw [e] at hjb
    injection hjb with hjb
    subst hjb
    generalize s[j]'hjs = x at *
    have h61 : (x == 61) = false := by rw [beq_eq_false_iff_ne]; rintro rfl; exact absurd hg (by decide)
    have h10 : (x == 10) = false := by rw [beq_eq_false_iff_ne]; rintro rfl; exact absurd hg (by decide)
    simp only [List.contains_cons, h61, h10, List.contains_nil, Bool.or_false]

theorem idxByte_ext (s : ByteArray) (c : Int) (w : World) : Calls Tryd.prog 42 #[.string s, .int .u8 c] w fun e w' => e = .returned (.int .i64 (Lib.indexByte s.data.toList c.toNat.toUInt8)) ∧ Ext w w' :=
  (Tryd.strings_IndexByte s c w).mono fun _ _ ⟨h, k⟩ => ⟨h, by rw [k]; exact Ext.refl _⟩
set_option maxHeartbeats 4000000 in
set_option maxRecDepth 100000 in
theorem idxRune_high (r : Int) (h1 : 128 ≤ r) (hv : r < 55296 ∨ (57343 < r ∧ r ≤ 1114111)) (w : World) : Calls Tryd.prog 142 #[.string ⟨#[61, 10]⟩, .int .i32 r] w fun e w' => e = .returned (.int .i64 (-1)) ∧ Ext w w' := by
  by_cases h : r = 65533
  · subst h
    have n0 : ∀ ty, _ := fun ty => run_next_ascii (P := Tryd.prog) w ⟨#[61, 10]⟩ 0 ty (by decide) (by decide)
    have n1 : ∀ ty, _ := fun ty => run_next_ascii (P := Tryd.prog) w ⟨#[61, 10]⟩ 1 ty (by decide) (by decide)
    have n2 : ∀ ty, _ := fun ty => run_next_end (P := Tryd.prog) w ⟨#[61, 10]⟩ 2 ty (by decide)
    go_enter Tryd.func142, Tryd.ntmps142
    go_wp2_with fail
    go_loopg [5, 6] 2 (fun g _ _ wx => ∃ i : Nat, i + g = 2 ∧ wx = w.iter ⟨#[61, 10]⟩ i)
    case atStart => exact ⟨0, rfl, rfl⟩
    case round =>
      obtain ⟨i, hig, rfl⟩ := hrel
      rcases (show i = 0 ∨ i = 1 ∨ i = 2 by omega) with rfl | rfl | rfl
      · obtain rfl : gk = 2 := by omega
        go_wp2_with fail
        go_roundg 1
        case measure => omega
        case rel => exact ⟨1, rfl, rfl⟩
      · obtain rfl : gk = 1 := by omega
        go_wp2_with fail
        go_roundg 0
        case measure => omega
        case rel => exact ⟨2, rfl, rfl⟩
      · go_wp2_with fail
        go_ret
        exact ⟨rfl, (Ext.refl w).alloc _⟩
  · have q1 : decide (r < 128) = false := decide_eq_false (by omega)
    have q2 : decide (0 ≤ r) = true := decide_eq_true (by omega)
    have q3 : (r == 65533) = false := by rw [beq_eq_false_iff_ne]; exact h
    have c1 := fun w => Tryd.utf8_ValidRune r w
    have hvr : Lib.validRune r = true := by unfold Lib.validRune; exact decide_eq_true (by omega)
    rw [hvr] at c1
    have C1 := Lib.hid c1
    have hval : Utf8.valid r = true := by
      unfold Utf8.valid
      simp
      omega
    obtain ⟨f1, f2, f3⟩ := encode_facts r hval h1
    obtain ⟨rs, hrs⟩ : ∃ rs, Utf8.encode r = rs := ⟨_, rfl⟩
    rw [hrs] at f1 f2 f3
    have hL : ∀ h, (((⟨#[61, 10]⟩ : ByteArray)[1]'h).toNat : Int) = 10 := fun _ => rfl
    clear hval hvr c1 h hv
    by_cases hz : rs.size = 2
    · have hb := get_bt rs
      have hc : Hid (128 ≤ bt rs 1) := Lib.hid (by
        have h2 := f3 (by omega)
        have h3 := hb 1 (by omega)
        rw [← h3]
        have : rs.size - 1 = 1 := by omega
        simp only [this] at h2
        omega)
      have q4 : ((10 : Int) != bt rs 1) = true := by
        have := hc.out
        simp
        omega
      have hlt : 1 < rs.size := by omega
      have c2 := (fun w => idxByte_ext ByteArray.empty (bt rs 1) w)
      have e2 : (Lib.indexByte ByteArray.empty.data.toList (bt rs 1).toNat.toUInt8 = -1) := rfl
      rw [e2] at c2
      have C2 := Lib.hid c2
      clear e2 c2
      clear f1 f2 f3
      go_enter Tryd.func142, Tryd.ntmps142
      go_wp2_with fail
      refine (C1.out _).mono ?_; rintro e w1 ⟨rfl, hw1⟩; subst w1
      go_wp2_with fail
      go_step3
      go_wp2_with fail
      refine wp_loop_rounds 1 ?_
      rw [rounds_succ]
      go_wp2_with fail
      go_step3
      go_wp2_with fail
      refine wp_region_det (Stood _) (by kernel_rfl) (by kernel_rfl) (Stood.start _) ?_
      repeat (first
        | (refine det_skip (by rfl) ?_; simp only [Act.put, List.setIfInBounds_toArray, List.set_cons_zero, List.set_cons_succ])
        | (refine det_op (v := ?_) rfl (by rfl) (fun w' hS => ?_) ?_; rotate_left; (focus (obtain ⟨hcl, hxt⟩ := hS; go_wp2_with (fail); (first | refine ⟨?_, rfl, hcl, hxt⟩ | refine ⟨?_, rfl, Stood.of (hxt.trans (by assumption))⟩); (first | (simp only [List.getElem?_toArray, List.getElem?_cons_succ, List.getElem?_cons_zero]; rfl) | rfl))); simp only [Act.put, List.setIfInBounds_toArray, List.set_cons_zero, List.set_cons_succ]))
      refine det_end ?_
      intro w1 hS
      have hx1 := hS.2
      clear hS
      go_wp2_with fail
      refine wp_region_det (Stood _) (by kernel_rfl) (by kernel_rfl) (Stood.start _) ?_
      repeat (first
        | (refine det_skip (by rfl) ?_; simp only [Act.put, List.setIfInBounds_toArray, List.set_cons_zero, List.set_cons_succ])
        | (refine det_op (v := ?_) rfl (by rfl) (fun w' hS => ?_) ?_; rotate_left; (focus (obtain ⟨hcl, hxt⟩ := hS; go_wp2_with (first | ((with_reducible refine (C2.out _).mono ?_); rintro e w1 ⟨rfl, hx1⟩)); (first | refine ⟨?_, rfl, hcl, hxt⟩ | refine ⟨?_, rfl, Stood.of (hxt.trans (by assumption))⟩); (first | (simp only [List.getElem?_toArray, List.getElem?_cons_succ, List.getElem?_cons_zero]; rfl) | rfl))); simp only [Act.put, List.setIfInBounds_toArray, List.set_cons_zero, List.set_cons_succ]))
      refine det_end ?_
      intro w2 hS
      have hx2 := hS.2
      clear hS
      go_wp2_with fail
      rw [Exit.noGoto_ret]
      go_simp
      go_ret
      exact ⟨rfl, hx1.trans hx2⟩
    · have h3 : (2 : Int) ≤ (rs.size : Int) - 1 := by omega
      clear f3 hz
      go_enter Tryd.func142, Tryd.ntmps142
      go_wp2_with fail
      refine (C1.out _).mono ?_; rintro e w1 ⟨rfl, hw1⟩; subst w1
      go_wp2_with fail
      go_step3
      go_wp2_with fail
      refine wp_loop_rounds 1 ?_
      rw [rounds_succ]
      go_wp2_with fail
      rw [Exit.noGoto_ret]
      go_ret
      exact ⟨rfl, (by show Below _ _ _; repeat' (first | (with_reducible exact Below.refl _ _) | (with_reducible assumption) | (with_reducible refine belowDrewN ?_ _) | (with_reducible refine Below.alloc ?_ ?_ _) | (with_reducible refine Below.drew ?_) | (with_reducible refine Below.setCell ?_ ?_ _) | go_size))⟩

theorem noAny_of {cs : List UInt8} : ∀ {l : List UInt8}, Lib.indexAny l cs = -1 → Lib.NoAny l cs l.length
  | [], _ => fun j b hj _ => absurd hj (by simp)
  | y :: t, h => by
    rw [Lib.indexAny] at h
    cases hy : cs.contains y with
    | true => rw [hy] at h; simp at h
    | false =>
      rw [hy] at h
      have ht : Lib.indexAny t cs = -1 := by
        by_cases e : Lib.indexAny t cs = -1
        · exact e
        · have h2 := Lib.indexAny_ge cs t
          rw [if_neg (by decide), if_neg (by simpa using e)] at h
          omega
      have ih := noAny_of ht
      intro j b hj hb
      cases j with
      | zero => simp at hb; subst hb; exact hy
      | succ j => exact ih j b (by simpa using hj) (by simpa using hb)
theorem indexAny_two (l : List UInt8) : decide (0 ≤ Lib.indexAny l [61, 10]) = (decide (0 ≤ Lib.indexByte l 61) || decide (0 ≤ Lib.indexByte l 10)) := by
  rw [← Lib.contains_iff_indexByte, ← Lib.contains_iff_indexByte]
  by_cases h : Lib.NoAny l [61, 10] l.length
  · rw [Lib.indexAny_none h]
    have hc : ∀ x : UInt8, x = 61 ∨ x = 10 → l.contains x = false := fun x hx => by
      rw [Bool.eq_false_iff]
      intro hm
      rw [List.contains_iff_mem] at hm
      obtain ⟨j, hj, he⟩ := List.getElem_of_mem hm
      have := h j x hj (by rw [List.getElem?_eq_getElem hj, he])
      rcases hx with rfl | rfl <;> simp at this
    rw [hc 61 (.inl rfl), hc 10 (.inr rfl)]
    rfl
  · have : ∃ (i : Nat) (x : UInt8), l[i]? = some x ∧ (x = 61 ∨ x = 10) := by
      unfold Lib.NoAny at h
      simp only [Classical.not_forall] at h
      obtain ⟨j, b, _, hb, hc⟩ := h
      refine ⟨j, b, hb, ?_⟩
      simp at hc
      rcases Classical.em (b = 61) with h1 | h1
      · exact .inl h1
      · exact .inr (hc h1)
    obtain ⟨i, x, hi, hx⟩ := this
    obtain ⟨hl, he⟩ := List.getElem?_eq_some_iff.1 hi
    have hm : x ∈ l := he ▸ List.getElem_mem hl
    have hr : (l.contains 61 || l.contains 10) = true := by
      rcases hx with rfl | rfl
      · simp [hm]
      · simp [hm]
    rw [hr, decide_eq_true_eq]
    rcases Int.lt_or_le (Lib.indexAny l [61, 10]) 0 with h1 | h1
    · exfalso
      have h2 := Lib.indexAny_ge [61, 10] l
      have h3 : Lib.indexAny l [61, 10] = -1 := by omega
      exact h (noAny_of h3)
    · exact h1

theorem idxRune_low (b : UInt8) (hb : b.toNat < 128) (w : World) : Calls Tryd.prog 142 #[.string ⟨#[61, 10]⟩, .int .i32 (b.toNat : Int)] w fun e w' => e = .returned (.int .i64 (Lib.indexByte [61, 10] b)) ∧ Ext w w' :=
  (Tryd.strings_IndexRune_ascii ⟨#[61, 10]⟩ (b.toNat : Int) w (by omega) (by omega)).mono fun _ _ ⟨h, k⟩ => ⟨by rw [h]; simp, by rw [k]; exact Ext.refl _⟩

theorem ext_iterAt {w wr : World} (h : Ext w wr) (s : ByteArray) (pos : Nat) (B : Nat := w.heap.size) (hB : w.heap.size ≤ B := by exact Nat.le_refl _) : Ext w (wr.iterAt B s pos) := by
  refine ⟨h.os, h.tape, h.output, by simp only [World.iterAt, Array.size_setIfInBounds]; exact h.size, fun b hb => ?_⟩
  have hne : B ≠ b := by omega
  have e : (wr.iterAt B s pos).heap[b]? = wr.heap[b]? := by
    show (wr.heap.setIfInBounds B _)[b]? = _
    rw [Array.getElem?_setIfInBounds_ne hne]
  rw [e]
  exact h.below.block b hb

/-- Between two rounds of the loop over the characters. -/
def AnyRel (s : ByteArray) (w wr : World) (i : Nat) : Prop := wr.heap[w.heap.size]? = some (.stringIter s i) ∧ Ext w wr ∧ Hid (Lib.NoAny s.data.toList [61, 10] i)

set_option maxHeartbeats 8000000 in
set_option maxRecDepth 100000 in
theorem indexAny_short (s : ByteArray) (h8 : s.size ≤ 8) (w : World) : Calls Tryd.prog 120 #[.string s, .string ⟨#[61, 10]⟩] w fun e w' => e = .returned (.int .i64 (Lib.indexAny s.data.toList [61, 10])) ∧ Ext w w' := by
  have h8z : decide ((8 : Int) < (s.size : Int)) = false := decide_eq_false (by omega)
  have c1 := fun w => Tryd.strings_shouldUseASCIISet (s.size : Int) w
  rw [h8z] at c1
  have C1 := Lib.hid c1
  clear c1 h8z
  go_enter Tryd.func120, Tryd.ntmps120
  go_wp2_with fail
  refine (C1.out _).mono ?_; rintro e w1 ⟨rfl, hw1⟩; subst w1
  go_wp2_with fail
  go_loopg [9, 10] s.size (fun g _ _ wx => ∃ i : Nat, i ≤ s.size ∧ s.size ≤ i + g ∧ AnyRel s w wx i)
  case atStart => exact ⟨0, by omega, by omega, World.iter_heap w s 0, (Ext.refl w).alloc _, Lib.hid (Lib.NoAny.zero _ _)⟩
  case round =>
    obtain ⟨i, hi, hig, hk, hE, hno⟩ := hrel
    by_cases hlt : i < s.size
    · have hnx := fun ty => Lib.run_next_any_at (P := Tryd.prog) wr w.heap.size s i ty hk hlt
      have hnew := Lib.hid (Lib.iterAt_heap wr w.heap.size s i (i + (Utf8.decode s i).2) hk)
      have hEx : Ext w (wr.iterAt w.heap.size s (i + (Utf8.decode s i).2)) := ext_iterAt hE s (i + (Utf8.decode s i).2)
      have Hk := Lib.hid hk
      clear hk
      obtain ⟨g, rfl⟩ : ∃ g, gk = g + 1 := ⟨gk - 1, by omega⟩
      by_cases ha : (s[i]'hlt).toNat < 128
      · have hd := decode_ascii s i hlt ha
        rw [hd] at hnx hnew hEx
        obtain ⟨x, hx⟩ : ∃ x, s[i]'hlt = x := ⟨_, rfl⟩
        rw [hx] at hnx ha
        have hxl : Hid (s.data.toList[i]? = some x) := Lib.hid (by
          have h2 : i < s.data.toList.length := hlt
          rw [List.getElem?_eq_getElem h2, ← hx]
          rfl)
        have C2 := Lib.hid (fun w => idxRune_low x ha w)
        have hcon := Lib.contains_iff_indexByte [61, 10] x
        clear hd hx ha
        cases hin : ([61, 10] : List UInt8).contains x with
        | false =>
          rw [hin] at hcon
          have hq : decide (0 ≤ Lib.indexByte [61, 10] x) = false := hcon.symm
          have Hin := Lib.hid hin
          clear hcon hin
          generalize Lib.indexByte [61, 10] x = z at *
          go_wp2_with fail
          refine (C2.out _).mono ?_; rintro e w2 ⟨rfl, hx2⟩
          go_wp2_with fail
          go_roundg g
          case measure => omega
          case rel => exact ⟨i + 1, hlt, by omega, (hx2.below.block _ (by have := (Array.getElem?_eq_some_iff.1 hnew.out).1; exact this)).trans hnew.out, hEx.trans hx2, Lib.hid (hno.out.succ hxl.out Hin.out)⟩
        | true =>
          rw [hin] at hcon
          have hq : decide (0 ≤ Lib.indexByte [61, 10] x) = true := hcon.symm
          have Hin := Lib.hid hin
          clear hcon hin
          generalize Lib.indexByte [61, 10] x = z at *
          go_wp2_with fail
          refine (C2.out _).mono ?_; rintro e w2 ⟨rfl, hx2⟩
          go_wp2_with fail
          go_ret
          exact ⟨by rw [Lib.indexAny_hit hno.out hxl.out Hin.out]; rfl, hEx.trans hx2⟩
      · obtain ⟨d1, d2, d3, d4, d5⟩ := decode_skip s i hlt (by omega)
        have C2 := Lib.hid (fun w => idxRune_high _ d1 d2 w)
        have D5 := Lib.hid d5
        clear ha d5 d2
        generalize ((Utf8.decode s i).1 : Int) = c at *
        generalize (Utf8.decode s i).2 = d at *
        go_wp2_with fail
        refine (C2.out _).mono ?_; rintro e w2 ⟨rfl, hx2⟩
        go_wp2_with fail
        go_roundg g
        case measure => omega
        case rel => exact ⟨i + d, by omega, by omega, (hx2.below.block _ (by have := (Array.getElem?_eq_some_iff.1 hnew.out).1; exact this)).trans hnew.out, hEx.trans hx2, Lib.hid (D5.out hno.out)⟩
    · obtain rfl : i = s.size := by omega
      have hnx := fun ty => Lib.run_next_end_at (P := Tryd.prog) wr w.heap.size s s.size ty hk hlt
      go_wp2_with fail
      go_ret
      exact ⟨by rw [Lib.indexAny_none (s := s.data.toList) hno.out]; rfl, hE⟩

theorem zeroSetA : ∀ w, (zeroValue 223).run Tryd.prog w = .ok (.agg (Array.replicate 256 (.bool false))) w := fun w => by kernel_rfl
set_option maxRecDepth 100000 in
theorem indexAny_any (s : ByteArray) (hs : s.size < 4294967281) (w : World) : Calls Tryd.prog 120 #[.string s, .string ⟨#[61, 10]⟩] w fun e w' => e = .returned (.int .i64 (Lib.indexAny s.data.toList [61, 10])) ∧ Ext w w' := by
  by_cases h8 : s.size ≤ 8
  · exact indexAny_short s h8 w
  · have := Tryd.strings_IndexAny_long zeroSetA s ⟨#[61, 10]⟩ w (by decide) (by omega) hs (by decide) (fun j b hb => by
      rcases (show j = 0 ∨ j = 1 ∨ 2 ≤ j by omega) with rfl | rfl | hj
      · simp at hb; subst hb; decide
      · simp at hb; subst hb; decide
      · have hl : (⟨#[61, 10]⟩ : ByteArray).data.toList.length = 2 := rfl
        rw [List.getElem?_eq_none (by omega)] at hb
        cases hb)
    exact this.mono fun _ _ ⟨h, k⟩ => ⟨h, by rw [k]; exact ((Ext.refl w).alloc _).alloc _⟩
/-- Is one of the two among a text's bytes? -/
def anyB (s : ByteArray) : Bool := decide (0 ≤ Lib.indexByte s.data.toList 61) || decide (0 ≤ Lib.indexByte s.data.toList 10)
set_option maxRecDepth 100000 in
theorem containsAny_any (s : ByteArray) (hs : s.size < 4294967281) (w : World) : Calls Tryd.prog 92 #[.string s, .string ⟨#[61, 10]⟩] w fun e w' => e = .returned (.bool (anyB s)) ∧ Ext w w' := by
  have C1 := Lib.hid (fun w => indexAny_any s hs w)
  have e : Hid (anyB s = decide (0 ≤ Lib.indexAny s.data.toList [61, 10])) := Lib.hid (indexAny_two _).symm
  generalize Lib.indexAny s.data.toList [61, 10] = z at *
  go_enter Tryd.func92, Tryd.ntmps92
  go_wp2_with fail
  refine (C1.out _).mono ?_; rintro e w1 ⟨rfl, hx1⟩
  go_wp2_with fail
  go_ret
  exact ⟨ret_bool (by rw [e.out]), hx1⟩
end Go.Proofs.YtbofobakphlpbaaDoor
