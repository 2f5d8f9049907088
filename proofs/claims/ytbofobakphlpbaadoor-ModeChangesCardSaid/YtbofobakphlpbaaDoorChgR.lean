/-
  The reference's mode changes: only, the cut at commas, octal digits. No conditions but the text's length.
-/
import Derived.WideMake
import Derived.Test.YtbofobakphlpbaaDoorChgW
import Derived.Test.YtbofobakphlpbaaDoorParts
namespace Go.Proofs.YtbofobakphlpbaaDoor
open Go.RowKit Go.WideShapes Go.PlainAid

theorem all256 {p q : UInt8 → Bool} (h : ∀ n, n < 256 → p (UInt8.ofNat n) = q (UInt8.ofNat n)) (c : UInt8) : p c = q c := by
  have := h c.toNat c.toNat_lt
  rwa [UInt8.ofNat_toNat] at this
def isOct (c : UInt8) : Bool := decide (48 ≤ c.toNat) && decide (c.toNat ≤ 55)
theorem oct_ix (c : UInt8) : decide (0 ≤ Lib.indexByte (⟨#[48, 49, 50, 51, 52, 53, 54, 55]⟩ : ByteArray).data.toList c) = isOct c :=
  all256 (p := fun c => decide (0 ≤ Lib.indexByte (⟨#[48, 49, 50, 51, 52, 53, 54, 55]⟩ : ByteArray).data.toList c)) (by decide +kernel) c
theorem who_ix (c : UInt8) : decide (0 ≤ Lib.indexByte (⟨#[117, 103, 111, 97]⟩ : ByteArray).data.toList c) = isWho c :=
  all256 (p := fun c => decide (0 ≤ Lib.indexByte (⟨#[117, 103, 111, 97]⟩ : ByteArray).data.toList c)) (by decide +kernel) c
theorem what_ix (c : UInt8) : decide (0 ≤ Lib.indexByte (⟨#[114, 119, 120, 88, 115, 116]⟩ : ByteArray).data.toList c) = isWhat c :=
  all256 (p := fun c => decide (0 ≤ Lib.indexByte (⟨#[114, 119, 120, 88, 115, 116]⟩ : ByteArray).data.toList c)) (by decide +kernel) c

theorem tw_lt (p : UInt8 → Bool) : ∀ (l : List UInt8) (k : Nat), k < (l.takeWhile p).length → ∃ c, l[k]? = some c ∧ p c = true
  | [], k, h => by simp at h
  | x :: l, k, h => by
    by_cases hx : p x = true
    · cases k with
      | zero => exact ⟨x, rfl, hx⟩
      | succ k =>
        rw [List.takeWhile_cons_of_pos hx] at h
        exact tw_lt p l k (by simpa using h)
    · rw [List.takeWhile_cons_of_neg hx] at h
      simp at h
theorem tw_at (p : UInt8 → Bool) : ∀ l : List UInt8, (l.takeWhile p).length < l.length → ∃ c, l[(l.takeWhile p).length]? = some c ∧ p c = false
  | [], h => by simp at h
  | x :: l, h => by
    by_cases hx : p x = true
    · rw [List.takeWhile_cons_of_pos hx] at h ⊢
      exact tw_at p l (by simpa using h)
    · rw [List.takeWhile_cons_of_neg hx]
      exact ⟨x, rfl, by simpa using hx⟩
theorem tw_take (p : UInt8 → Bool) (l : List UInt8) : l.take (l.takeWhile p).length = l.takeWhile p ∧ l.drop (l.takeWhile p).length = l.dropWhile p := by
  have h1 := List.take_left (l₁ := l.takeWhile p) (l₂ := l.dropWhile p)
  have h2 := List.drop_left (l₁ := l.takeWhile p) (l₂ := l.dropWhile p)
  rw [List.takeWhile_append_dropWhile] at h1 h2
  exact ⟨h1, h2⟩
theorem bt_some {s : ByteArray} {k : Nat} {c : UInt8} (h : s.data.toList[k]? = some c) : k < s.size ∧ bt s k = (c.toNat : Int) := by
  obtain ⟨hl, hc⟩ := List.getElem?_eq_some_iff.1 h
  have hk : k < s.size := hl
  refine ⟨hk, ?_⟩
  unfold bt
  rw [dif_pos hk, ← hc]
  rfl
theorem ext_take (s : ByteArray) (n : Nat) : (s.extract 0 n).data.toList = s.data.toList.take n := by
  rw [ByteArray.data_extract, Array.toList_extract, List.extract_eq_take_drop]
  simp
theorem ext_drop (s : ByteArray) (n : Nat) : (s.extract n s.size).data.toList = s.data.toList.drop n := by
  rw [ByteArray.data_extract, Array.toList_extract, List.extract_eq_take_drop, List.take_of_length_le]
  rw [List.length_drop]
  exact Nat.le_refl _

set_option maxHeartbeats 1600000 in
set_option maxRecDepth 100000 in
theorem only_any (s z : ByteArray) (hs : s.size ≤ 1000) (p : UInt8 → Bool) (hp : ∀ c, decide (0 ≤ Lib.indexByte z.data.toList c) = p c) (w : World) : Calls Tryd.prog 21 #[.string s, .string z] w fun e w' =>
    ∃ t r : ByteArray, e = .returned (.tuple #[.string t, .string r]) ∧ Hid (t.data.toList = s.data.toList.takeWhile p) ∧ Hid (r.data.toList = s.data.toList.dropWhile p) ∧ t.size ≤ s.size ∧ r.size ≤ s.size ∧ Ext w w' := by
  obtain ⟨n, hn⟩ : ∃ n, n = (s.data.toList.takeWhile p).length := ⟨_, rfl⟩
  have hns : n ≤ s.size := by rw [hn]; exact (List.takeWhile_sublist p).length_le
  have h1 : Hid ((s.extract 0 n).data.toList = s.data.toList.takeWhile p) := Lib.hid (by rw [ext_take, hn, (tw_take p _).1])
  have h2 : Hid ((s.extract n s.size).data.toList = s.data.toList.dropWhile p) := Lib.hid (by rw [ext_drop, hn, (tw_take p _).2])
  have hlt : Hid (∀ k, k < n → ∃ c, s.data.toList[k]? = some c ∧ p c = true) := Lib.hid (by rw [hn]; exact tw_lt p _)
  have hat : Hid (n < s.size → ∃ c, s.data.toList[n]? = some c ∧ p c = false) := Lib.hid (by rw [hn]; exact tw_at p _)
  have z1 : Hid ((s.extract 0 n).size ≤ s.size) := Lib.hid (by rw [ByteArray.size_extract]; omega)
  have z2 : Hid ((s.extract n s.size).size ≤ s.size) := Lib.hid (by rw [ByteArray.size_extract]; omega)
  have g1 : Hid (n = s.size → s.data.toList = s.data.toList.takeWhile p) := Lib.hid (fun e => by
    have := h1.out
    rwa [ext_take, e, List.take_of_length_le (show s.data.toList.length ≤ s.size from Nat.le_refl _)] at this)
  have g2 : Hid (n = s.size → ByteArray.empty.data.toList = s.data.toList.dropWhile p) := Lib.hid (fun e => by
    have := h2.out
    rw [ext_drop, e, List.drop_of_length_le (show s.data.toList.length ≤ s.size from Nat.le_refl _)] at this
    exact this)
  have hP := Lib.hid hp
  have hb := get_bt s
  clear hn hp
  go_enter Tryd.func21, Tryd.ntmps21
  go_wp2_with fail
  go_loopw [6] (fun nv wr => ∃ k : Nat, k ≤ n ∧ nv = .int .i64 (k : Int) ∧ Ext w wr) (fun nv _ => n - (intOf nv).toNat)
  case atStart => exact ⟨0, by omega, rfl, Ext.refl _⟩
  case round =>
    obtain ⟨k, hk, rfl, hE⟩ := hrel
    by_cases hkn : k < n
    · obtain ⟨c, hc, hpc⟩ := hlt.out k hkn
      obtain ⟨a1, a2⟩ := bt_some hc
      have CI := Lib.hid (fun w => ixByte_any z c w)
      have hd := hP.out c
      rw [hpc] at hd
      generalize Lib.indexByte z.data.toList c = ix at *
      clear hc hpc
      go_wp2_with fail
      refine (CI.out _).mono ?_; rintro e w1 ⟨rfl, hx1⟩
      go_wp2_with fail
      go_roundw
      case rel => exact ⟨k + 1, by omega, by go_num, hE.trans hx1⟩
      case measure => simp [intOf]; omega
    · obtain rfl : k = n := by omega
      by_cases hks : k < s.size
      · obtain ⟨c, hc, hpc⟩ := hat.out hks
        obtain ⟨a1, a2⟩ := bt_some hc
        have CI := Lib.hid (fun w => ixByte_any z c w)
        have hd := hP.out c
        rw [hpc] at hd
        generalize Lib.indexByte z.data.toList c = ix at *
        clear hc hpc
        go_wp2_with fail
        refine (CI.out _).mono ?_; rintro e w1 ⟨rfl, hx1⟩
        go_wp2_with fail
        refine wp_region_det (Stood _) (by kernel_rfl) (by kernel_rfl) (Stood.start _) ?_
        repeat (first
          | (refine det_skip (by rfl) ?_; simp only [Act.put, List.setIfInBounds_toArray, List.set_cons_zero, List.set_cons_succ])
          | (refine det_op (v := ?_) rfl (by rfl) (fun w' hS => ?_) ?_; rotate_left; (focus (obtain ⟨hcl, hxt⟩ := hS; go_wp2_with (fail); (first | refine ⟨?_, rfl, hcl, hxt⟩ | refine ⟨?_, rfl, Stood.of (hxt.trans (by assumption))⟩); (first | (simp only [List.getElem?_toArray, List.getElem?_cons_succ, List.getElem?_cons_zero]; rfl) | rfl))); simp only [Act.put, List.setIfInBounds_toArray, List.set_cons_zero, List.set_cons_succ]))
        refine det_end ?_
        intro w2 hS
        have hx2 := hS.2
        clear hS
        go_wp2_with fail
        go_ret2
        exact ⟨_, _, rfl, h1, h2, z1.out, z2.out, (hE.trans hx1).trans hx2⟩
      · obtain rfl : k = s.size := by omega
        go_wp2_with fail
        refine wp_region_det (Stood _) (by kernel_rfl) (by kernel_rfl) (Stood.start _) ?_
        repeat (first
          | (refine det_skip (by rfl) ?_; simp only [Act.put, List.setIfInBounds_toArray, List.set_cons_zero, List.set_cons_succ])
          | (refine det_op (v := ?_) rfl (by rfl) (fun w' hS => ?_) ?_; rotate_left; (focus (obtain ⟨hcl, hxt⟩ := hS; go_wp2_with (fail); (first | refine ⟨?_, rfl, hcl, hxt⟩ | refine ⟨?_, rfl, Stood.of (hxt.trans (by assumption))⟩); (first | (simp only [List.getElem?_toArray, List.getElem?_cons_succ, List.getElem?_cons_zero]; rfl) | rfl))); simp only [Act.put, List.setIfInBounds_toArray, List.set_cons_zero, List.set_cons_succ]))
        refine det_end ?_
        intro w2 hS
        have hx2 := hS.2
        clear hS
        go_wp2_with fail
        go_ret2
        exact ⟨_, _, rfl, Lib.hid (g1.out (by first | rfl | trivial)), Lib.hid (g2.out (by first | rfl | trivial)), Nat.le_refl _, Nat.zero_le _, hE.trans hx2⟩

/-- strings.Split at a comma. -/
theorem split_any (s : ByteArray) (hs : s.size ≤ 1000) (w : World) (hx : HasMax w) : Calls Tryd.prog 22 #[.string s, .string ⟨#[44]⟩] w fun e w' =>
    e = .returned (.slice (some ⟨w.heap.size, 0, none⟩) (cmS s).length (cmS s).length) ∧ w' = w.alloc (.cells ((cmS s).map Value.string).toArray 9) := by
  obtain ⟨m, hm⟩ := hx
  have h := Tryd.strings_Split s ⟨#[44]⟩ m w (by omega) hm (by decide)
  have e : Lib.countB s ⟨#[44]⟩ + 1 = (cmS s).length := (Lib.splitB_all ⟨#[44]⟩ (by decide) 0 _ s rfl).symm
  rw [e] at h
  exact h

theorem push_set (A : Array Obj) (a b : Obj) : (A.push a).setIfInBounds A.size b = A.push b := by
  apply Array.toList_inj.1
  simp
theorem lit_step (w : World) (es : Array MapEntry) (clock : Nat) (k : Int) (v : Value) (hf : Instr.findNow (.int .u8) (.int .u8 k) es.toList 0 = some none) :
    (Instr.mapUpdate 59 (.map (some w.heap.size)) (.int .u8 k) v).run Tryd.prog (w.alloc (.map es clock)) = .ok () (w.alloc (.map (es.push { key := .int .u8 k, val := v, born := clock }) (clock + 1))) := by
  have hb : (w.alloc (.map es clock)).heap[w.heap.size]? = some (.map es clock) := World.alloc_heap_new w _
  have hk := Tryd.underlying5
  have hc : (Instr.checkKey false 10000 5 (.int .u8 k)).run Tryd.prog (w.alloc (.map es clock)) = .ok () (w.alloc (.map es clock)) := MapKept.run_checkKey (k := .int .u8 k) hk (by simp [MapKept.IsKey]) false 9999
  simp [Instr.mapUpdate, run_underlying Tryd.underlying59, MapKept.run_getObj_map hb, hc, MapKept.run_findKey hk hf, MapKept.run_setObj_map _ hb, Result.andThen]
  simp only [World.alloc, push_set]
theorem lit_look (w : World) (es : Array MapEntry) (clock i : Nat) (k : Int) (v : Value) (hf : Instr.findNow (.int .u8) (.int .u8 k) es.toList 0 = some (some (i, v))) :
    (Instr.lookup 59 (.map (some w.heap.size)) (.int .u8 k) false).run Tryd.prog (w.alloc (.map es clock)) = .ok v (w.alloc (.map es clock)) := by
  have hb : (w.alloc (.map es clock)).heap[w.heap.size]? = some (.map es clock) := World.alloc_heap_new w _
  have hk := Tryd.underlying5
  have hc : ∀ e, (Instr.checkKey e 10000 5 (.int .u8 k)).run Tryd.prog (w.alloc (.map es clock)) = .ok () (w.alloc (.map es clock)) := fun e => MapKept.run_checkKey (k := .int .u8 k) hk (by simp [MapKept.IsKey]) e 9999
  simp [Instr.lookup, run_underlying Tryd.underlying59, MapKept.run_getObj_map hb, hc, MapKept.run_findKey hk hf, Result.andThen]
/-- The pieces are no longer than the whole. -/
theorem cmS_le : ∀ (n : Nat) (u : ByteArray), u.size ≤ n → ∀ p ∈ cmS u, p.size ≤ u.size
  | n, u, hn, p, hp => by
    by_cases h : Lib.indexByte u.data.toList 44 = -1
    · rw [cmS_miss h] at hp
      rw [List.mem_singleton.1 hp]
      exact Nat.le_refl _
    · have hg := Lib.indexByte_ge u.data.toList 44
      obtain ⟨i, hi⟩ : ∃ i : Nat, Lib.indexByte u.data.toList 44 = (i : Int) := ⟨(Lib.indexByte u.data.toList 44).toNat, by omega⟩
      have hl : i < u.size := ixc_lt hi
      rw [cmS_hit hi] at hp
      rcases List.mem_cons.1 hp with rfl | hp
      · rw [ByteArray.size_extract]; omega
      · cases n with
        | zero => omega
        | succ n =>
          have hz : (u.extract (i + 1) u.size).size = u.size - (i + 1) := by rw [ByteArray.size_extract]; omega
          have := cmS_le n (u.extract (i + 1) u.size) (by omega) p hp
          omega
end Go.Proofs.YtbofobakphlpbaaDoor
