/-
  A name cleaned: path.Clean and the reference's Clean.
-/
import Derived.Test.YtedcibjnnihhfaaDoorParts
import Derived.Test.YtedcibjnnihhfaaDoorCleanL
import Derived.Deep.RegionLaw
namespace Go.Proofs.YtedcibjnnihhfaaDoor
open Go.RowKit Go.WideShapes

/-- Two points. -/
def ddB (x : ByteArray) : Bool := x.toList == [46, 46]
/-- Texts with slashes between them. -/
def joinV (l : List ByteArray) : ByteArray := ⟨(Lib.join (l.map (·.data.toList)) [47]).toArray⟩

theorem joinV_len {l : List ByteArray} {n : Nat} (h : ∀ x ∈ l, x.size ≤ n) : (Lib.join (l.map (·.data.toList)) [47]).length ≤ l.length * (n + 1) := by
  have := join_len (l.map (·.data.toList)) n (fun x hx => by
    obtain ⟨y, hy, rfl⟩ := List.mem_map.1 hx
    simpa using h y hy)
  simpa using this

theorem join_any (w : World) (v : Value) (l : List ByteArray) (h : IsStrs w v l) (hlen : (Lib.join (l.map (·.data.toList)) [47]).length ≤ 140737488355328) (hN : l.length ≤ 140737488355328) :
    Calls Tryd.prog 104 #[v, .string ⟨#[47]⟩] w fun e w' => e = .returned (.string (joinV l)) ∧ Ext w w' := by
  rcases h with ⟨⟨a, c, rfl⟩, rfl⟩ | ⟨b, off, cap, rfl, hn, hm, hc⟩
  · exact (Tryd.strings_Join_none a c ⟨#[47]⟩ w).mono fun e w' ⟨he, hw⟩ => ⟨he, by rw [hw]; exact Ext.refl _⟩
  · cases hl : l with
    | nil => subst hl; exact (Tryd.strings_Join_none _ _ ⟨#[47]⟩ w).mono fun e w' ⟨he, hw⟩ => ⟨he, by rw [hw]; exact Ext.refl _⟩
    | cons x t =>
      rw [← hl]
      have hb : b < w.heap.size := World.block_lt_of_cell? w _ (hc 0 (by rw [hl]; simp))
      exact Tryd.strings_Join b off cap l ⟨#[47]⟩ w (fun j x hx => by
        have hj : j < l.length := (List.getElem?_eq_some_iff.1 hx).1
        have := hc j hj
        rw [List.getElem?_eq_getElem hj] at hx
        rw [this, Option.some.inj hx]) hb hN hn hlen

theorem owns_form {w : World} {base : Nat} {v : Value} {l : List ByteArray} (h : w.ownsRow base 9 1 v l.length (l.map Value.string)) :
    ∃ (oa : Option Addr) (cap : Nat), v = .slice oa l.length cap ∧ l.length ≤ cap ∧ cap ≤ maxLen ∧ (l ≠ [] → ∃ g, oa = some ⟨g, 0, none⟩ ∧ w.ownsRow base 9 1 (.slice (some ⟨g, 0, none⟩) (l.length - 1) cap) l.dropLast.length (l.dropLast.map Value.string)) := by
  obtain ⟨h1, ⟨hv, hn⟩ | ⟨g, cap, cur, hv, hb, hh, hn, hm, hs, ht⟩⟩ := h
  · refine ⟨none, 0, by rw [hv, hn], by omega, by simp [maxLen], fun hne => ?_⟩
    exact (hne (by simpa using hn)).elim
  · refine ⟨_, cap, hv, hn, hm, fun hne => ⟨g, rfl, ?_⟩⟩
    refine ⟨by simp, .inr ⟨g, cap, cur, by simp, hb, hh, by simp; omega, hm, hs, ?_⟩⟩
    have e1 : (l.dropLast.map Value.string) = (cur.toList.take (l.length * 1)).dropLast := by rw [ht, List.map_dropLast]
    have e2 : (cur.toList.take (l.length * 1)).length = l.length := by rw [ht]; simp
    rw [e1, List.length_dropLast, List.dropLast_eq_take (l := cur.toList.take (l.length * 1)), e2, List.take_take]
    congr 1
    omega

set_option maxHeartbeats 1600000 in
set_option maxRecDepth 100000 in
theorem clean_any (s : ByteArray) (hs : s.size ≤ 100000) (w : World) (hm : HasMax w) :
    Calls Tryd.prog 102 #[.string s] w fun e w' => e = .returned (.tuple #[.string (joinV (cleanV ddB (partsB s)).1), .bool (cleanV ddB (partsB s)).2]) ∧ Ext w w' := by
  obtain ⟨i0, hi, hz0, hz1, hz2⟩ := info_parts infoStr
  have Hp := Lib.hid (parts_any s (by omega) w hm)
  have hlen : (Lib.join ((cleanV ddB (partsB s)).1.map (·.data.toList)) [47]).length ≤ 140737488355328 := by
    have h1 := joinV_len (l := (cleanV ddB (partsB s)).1) (n := s.size) (cleanV_mem ddB fun x hx => part_size hx)
    have h2 : (cleanV ddB (partsB s)).1.length ≤ (partsB s).length := by have := cfold_len ddB (partsB s) ([], true); simpa [cleanV] using this
    have h3 := parts_le s
    have h4 : (cleanV ddB (partsB s)).1.length * (s.size + 1) ≤ 100001 * 100001 := Nat.mul_le_mul (by omega) (by omega)
    omega
  have hl1 : (partsB s).length ≤ 100001 := by have := parts_le s; omega
  go_enter Tryd.func102, Tryd.ntmps102
  go_wp2_with fail
  refine Hp.out.mono ?_; rintro e w1 ⟨u, rfl, h1, hx1⟩
  obtain ⟨l, hl⟩ : ∃ l, partsB s = l := ⟨_, rfl⟩
  have Hl := Lib.hid hl
  rw [hl] at h1 hlen hl1
  clear hl Hp
  obtain ⟨ou, cap0, rfl, _, hcu⟩ := h1.open
  have Hc := Lib.hid hcu
  clear hcu h1
  go_wp2_with fail
  go_loopw [4, 5, 11] (fun v ok i wr => ∃ k : Nat, k ≤ l.length ∧ i = .int .i64 (k : Int) ∧ ok = .bool (cfold ddB (l.take k) ([], true)).2 ∧ wr.ownsRow w1.heap.size 9 1 v (cfold ddB (l.take k) ([], true)).1.length ((cfold ddB (l.take k) ([], true)).1.map Value.string) ∧ Ext w1 wr) (fun _ _ i _ => l.length - (intOf i).toNat)
  case atStart => exact ⟨0, by omega, rfl, rfl, World.ownsRow_nil _ _ _ _, Ext.refl _⟩
  case round =>
    obtain ⟨k, hk, rfl, rfl, hown, hE⟩ := hrel
    by_cases hlt : k < l.length
    · obtain ⟨b, off, e0, g1'⟩ := Hc.out k hlt
      subst e0
      have g1 := hE.cell g1'
      clear g1'
      have hst : Hid (cfold ddB (l.take (k + 1)) ([], true) = cstep ddB (cfold ddB (l.take k) ([], true)) l[k]) := Lib.hid (by rw [List.take_succ_eq_append_getElem hlt, cfold_snoc])
      have hsl := cfold_len ddB (l.take k) ([], true)
      rw [List.length_take, Nat.min_eq_left hk] at hsl
      simp only [List.length_nil, Nat.zero_add] at hsl
      generalize l[k] = x at *
      generalize cfold ddB (l.take k) ([], true) = st at *
      obtain ⟨st, ok⟩ := st
      simp only at hown hsl
      cases hd : ddB x with
      | false =>
        have t1 : (!x.toList == [46, 46]) = true := by have := hd; unfold ddB at this; simpa using this
        have Hs : Hid (cfold ddB (l.take (k + 1)) ([], true) = (st ++ [x], ok)) := Lib.hid (by rw [hst.out]; simp [cstep, hd])
        clear hd hst
        go_wp2_with (at_builtin; refine wpList_append_own _ rfl _ _ 101 rfl w1.heap.size 9 i0 (.string ByteArray.empty) 1 16 Tryd.underlying101 hi hz0 hz1 hz2 rfl (by decide) _ _ _ rfl (hown.alloc _) ⟨wr.heap.size, 0, none⟩ 1 1 [.string x] rfl rfl ?c1 ?c2 ?c3 ?c4 ?c5 ?_)
        case c1 =>
          intro j u hj
          match j, hj with
          | 0, hj => simp at hj; subst hj; simp [Addr.add]
        case c2 => intro u hu; simp at hu; subst hu; rfl
        case c3 => unfold maxLen; omega
        case c4 => omega
        case c5 => have := hE.size; simp; omega
        intro v' w2 hown' hgrow _
        have hE' : Ext w1 w2 := (hE.alloc _).ofGrown hgrow (fun j hj => owns_lt hown (Nat.le_refl _) j hj)
        have Hown : Hid (w2.ownsRow w1.heap.size 9 1 v' (st ++ [x]).length ((st ++ [x]).map Value.string)) := Lib.hid (by simpa using hown')
        clear hown hown' hgrow
        go_wp2_with fail
        go_roundw
        case rel => exact ⟨k + 1, hlt, by go_num, by rw [Hs.out], by rw [Hs.out]; exact Hown.out, hE'⟩
        case measure => simp [intOf]; omega
      | true =>
        have t1 : (!x.toList == [46, 46]) = false := by have := hd; unfold ddB at this; simpa using this
        obtain ⟨oa, cap, rfl, hcap1, hcap2, hpop⟩ := owns_form hown
        unfold maxLen at hcap2
        cases he : st with
        | nil =>
          subst he
          have Hs : Hid (cfold ddB (l.take (k + 1)) ([], true) = ([], false)) := Lib.hid (by rw [hst.out]; simp [cstep, hd])
          clear hd hst hpop
          have Hown := Lib.hid hown
          clear hown
          go_wp2_with fail
          go_roundw
          case rel => exact ⟨k + 1, hlt, by go_num, by rw [Hs.out], by rw [Hs.out]; exact Hown.out, hE⟩
          case measure => simp [intOf]; omega
        | cons y t =>
          have hne : st ≠ [] := by rw [he]; simp
          obtain ⟨g, rfl, hown'⟩ := hpop hne
          have hpos : 0 < st.length := by rw [he]; simp
          have Hs : Hid (cfold ddB (l.take (k + 1)) ([], true) = (st.dropLast, ok)) := Lib.hid (by rw [hst.out]; simp [cstep, hd, hne])
          have Hown := Lib.hid hown'
          rw [← he]
          clear hd hst hpop hown hown' he hne
          generalize hn : st.length = n at *
          obtain ⟨n, rfl⟩ : ∃ m, n = m + 1 := ⟨n - 1, by omega⟩
          clear hn
          go_wp2_with fail
          go_roundw
          case rel => exact ⟨k + 1, hlt, by go_num, by rw [Hs.out], by rw [Hs.out]; exact Hown.out, hE⟩
          case measure => simp [intOf]; omega
    · obtain rfl : k = l.length := by omega
      rw [List.take_length] at *
      have HE := Lib.hid (hx1.trans hE)
      have hj := join_any wr u4 _ (IsStrs.ofOwns hown) hlen (by have := cfold_len ddB l ([], true); simp at this; omega)
      have HJ := Lib.hid hj
      clear hj hown hx1 hE
      have Hr : Hid (cleanV ddB (partsB s) = cfold ddB l ([], true)) := Lib.hid (by rw [Hl.out]; rfl)
      generalize cfold ddB l ([], true) = st at *
      obtain ⟨st, ok⟩ := st
      go_wp2_with fail
      refine HJ.out.mono ?_; rintro e w2 ⟨rfl, hx2⟩
      go_wp2_with fail
      go_ret2
      exact ⟨ret_val (by rw [Hr.out]; rfl), HE.out.trans hx2⟩
end Go.Proofs.YtedcibjnnihhfaaDoor
