/-
  Comparing texts, lists of texts, names: slices.Compare, path.Compare; the reference's Below.
-/
import Derived.Test.YtioceakpmnhohaaDoorParts
namespace Go.Proofs.YtioceakpmnhohaaDoor
open Go.RowKit Go.WideShapes

/-! ### The order -/
theorem less_cons (x y : UInt8) (s t : List UInt8) : Op.bytesLess (x :: s) (y :: t) = (decide (x.toNat < y.toNat) || (x == y && Op.bytesLess s t)) := by
  simp only [Op.bytesLess, UInt8.lt_iff_toNat_lt]
theorem less_asym : ∀ (a b : List UInt8), Op.bytesLess a b = true → Op.bytesLess b a = false
  | [], [], h => by simp [Op.bytesLess] at h
  | [], _ :: _, _ => by simp [Op.bytesLess]
  | _ :: _, [], h => by simp [Op.bytesLess] at h
  | x :: s, y :: t, h => by
    have ih := less_asym s t
    rw [less_cons] at h ⊢
    rcases Nat.lt_trichotomy x.toNat y.toNat with h1 | h1 | h1
    · have h2 : (y == x) = false := by rw [beq_eq_false_iff_ne]; intro e; rw [e] at h1; omega
      rw [h2]; simp; omega
    · have e : x = y := UInt8.toNat_inj.1 h1
      subst e
      simp at h ⊢
      exact ih h
    · have h2 : (x == y) = false := by rw [beq_eq_false_iff_ne]; intro e; rw [e] at h1; omega
      rw [h2] at h; simp at h; omega
theorem less_total : ∀ (a b : List UInt8), Op.bytesLess a b = false → Op.bytesLess b a = false → a = b
  | [], [], _, _ => rfl
  | [], _ :: _, h, _ => by simp [Op.bytesLess] at h
  | _ :: _, [], _, h => by simp [Op.bytesLess] at h
  | x :: s, y :: t, h, k => by
    have ih := less_total s t
    rw [less_cons] at h k
    rcases Nat.lt_trichotomy x.toNat y.toNat with h1 | h1 | h1
    · simp [h1] at h
    · have e : x = y := UInt8.toNat_inj.1 h1
      subst e
      simp at h k
      rw [ih h k]
    · simp [h1] at k
theorem less_irrefl (a : List UInt8) : Op.bytesLess a a = false := by
  cases h : Op.bytesLess a a with
  | false => rfl
  | true => have := less_asym a a h; rw [h] at this; exact this

/-- -1, 0 or 1, as the one text is ahead of the other, it, or behind. -/
def scmp (a b : ByteArray) : Int := if Op.bytesLess a.toList b.toList then -1 else if a.toList == b.toList then 0 else 1
theorem scmp_rng (a b : ByteArray) : scmp a b = -1 ∨ scmp a b = 0 ∨ scmp a b = 1 := by
  unfold scmp
  repeat' split
  all_goals simp
theorem scmp_swap (a b : ByteArray) : scmp b a = - scmp a b := by
  unfold scmp
  cases h : Op.bytesLess a.toList b.toList with
  | true =>
    have h1 := less_asym _ _ h
    have h2 : (b.toList == a.toList) = false := by
      rw [beq_eq_false_iff_ne]; intro e; rw [e, less_irrefl] at h; cases h
    rw [h1, h2]; rfl
  | false =>
    cases k : Op.bytesLess b.toList a.toList with
    | true =>
      have h2 : (a.toList == b.toList) = false := by
        rw [beq_eq_false_iff_ne]; intro e; rw [e, less_irrefl] at k; cases k
      rw [h2]; rfl
    | false =>
      have e := less_total _ _ h k
      rw [e]; simp
/-- The same of lists: at the first place at which they part. -/
def lcmp : List ByteArray → List ByteArray → Int
  | [], [] => 0
  | [], _ :: _ => -1
  | _ :: _, [] => 1
  | x :: s, y :: t => if scmp x y = 0 then lcmp s t else scmp x y
theorem lcmp_rng : ∀ (l m : List ByteArray), lcmp l m = -1 ∨ lcmp l m = 0 ∨ lcmp l m = 1
  | [], [] => by simp [lcmp]
  | [], _ :: _ => by simp [lcmp]
  | _ :: _, [] => by simp [lcmp]
  | x :: s, y :: t => by
    have := scmp_rng x y
    have := lcmp_rng s t
    unfold lcmp
    split <;> assumption
theorem lcmp_swap : ∀ (l m : List ByteArray), lcmp m l = - lcmp l m
  | [], [] => by simp [lcmp]
  | [], _ :: _ => by simp [lcmp]
  | _ :: _, [] => by simp [lcmp]
  | x :: s, y :: t => by
    have h := scmp_swap x y
    have k := lcmp_swap s t
    unfold lcmp
    by_cases h0 : scmp x y = 0
    · rw [if_pos (by omega), if_pos h0]; exact k
    · rw [if_neg (by omega), if_neg h0]; exact h
theorem lcmp_step {l m : List ByteArray} {k : Nat} (h1 : k < l.length) (h2 : k < m.length) (h : scmp l[k] m[k] = 0) : lcmp (l.drop k) (m.drop k) = lcmp (l.drop (k + 1)) (m.drop (k + 1)) := by
  rw [List.drop_eq_getElem_cons h1, List.drop_eq_getElem_cons h2, lcmp, if_pos h]
theorem lcmp_part {l m : List ByteArray} {k : Nat} (h1 : k < l.length) (h2 : k < m.length) (h : scmp l[k] m[k] ≠ 0) : lcmp (l.drop k) (m.drop k) = scmp l[k] m[k] := by
  rw [List.drop_eq_getElem_cons h1, List.drop_eq_getElem_cons h2, lcmp, if_neg h]
theorem lcmp_more {l m : List ByteArray} {k : Nat} (h1 : k < l.length) (h2 : m.length ≤ k) : lcmp (l.drop k) (m.drop k) = 1 := by
  rw [List.drop_eq_getElem_cons h1, List.drop_eq_nil_of_le h2, lcmp]
theorem lcmp_end {l m : List ByteArray} {k : Nat} (h1 : l.length ≤ k) : lcmp (l.drop k) (m.drop k) = if k < m.length then -1 else 0 := by
  rw [List.drop_eq_nil_of_le h1]
  split
  · rename_i h; rw [List.drop_eq_getElem_cons h, lcmp]
  · rw [List.drop_eq_nil_of_le (by omega), lcmp]

/-! ### The program -/
theorem notNaN_any (a : ByteArray) (w : World) : Calls Tryd.prog 54 #[.string a] w fun e w' => e = .returned (.bool false) ∧ w' = w := by
  go_enter Tryd.func54, Tryd.ntmps54
  go_wp2_with fail
  go_ret
  exact ⟨ret_bool (by simp), rfl⟩

theorem cmpStr_any (a b : ByteArray) (w : World) : Calls Tryd.prog 46 #[.string a, .string b] w fun e w' => e = .returned (.int .i64 (scmp a b)) ∧ w' = w := by
  have e : Hid (scmp a b = if Op.bytesLess a.toList b.toList then -1 else if a.toList == b.toList then 0 else 1) := Lib.hid rfl
  go_enter Tryd.func46, Tryd.ntmps46
  go_wp2_with ((refine (notNaN_any _ _).mono ?_); rintro e w1 ⟨rfl, rfl⟩)
  all_goals (go_ret; exact ⟨ret_int (by rw [e.out]; simp_all), rfl⟩)

set_option maxHeartbeats 1600000 in
set_option maxRecDepth 100000 in
theorem slicesCompare_any (w : World) (u v : Value) (l m : List ByteArray) (h1 : IsStrs w u l) (h2 : IsStrs w v m) :
    Calls Tryd.prog 38 #[u, v] w fun x w' => x = .returned (.int .i64 (lcmp l m)) ∧ Ext w w' := by
  rcases h1 with ⟨⟨a, c, rfl⟩, rfl⟩ | ⟨b, off, cap, rfl, hn, hm, hc⟩
  · have e0 : Hid (lcmp [] m = if 0 < m.length then -1 else 0) := Lib.hid (lcmp_end (l := []) (k := 0) (Nat.le_refl 0))
    rcases h2 with ⟨⟨a', c', rfl⟩, rfl⟩ | ⟨b', off', cap', rfl, hn', hm', hc'⟩
    all_goals
      go_enter Tryd.func38, Tryd.ntmps38
      go_wp2_with fail
      refine wp_loop_rounds 1 ?_
      rw [rounds_succ]
      go_wp2_with fail
      all_goals (go_ret; exact ⟨ret_int (by rw [e0.out]; simp_all), (by show Below _ _ _; repeat' (first | (with_reducible exact Below.refl _ _) | (with_reducible assumption) | (with_reducible refine belowDrewN ?_ _) | (with_reducible refine Below.alloc ?_ ?_ _) | (with_reducible refine Below.drew ?_) | (with_reducible refine Below.setCell ?_ ?_ _) | go_size))⟩)
  · obtain ⟨av, hv, hcv⟩ : ∃ (av : Option Addr × Nat), v = .slice av.1 m.length av.2 ∧ ∀ k (h : k < m.length), ∃ b' off', av.1 = some ⟨b', off', none⟩ ∧ w.cell? ⟨b', off' + k, none⟩ = some (.string m[k]) := by
      rcases h2 with ⟨⟨a', c', rfl⟩, rfl⟩ | ⟨b', off', cap', rfl, hn', hm', hc'⟩
      · exact ⟨(a', c'), rfl, fun k h => by simp at h⟩
      · exact ⟨(some ⟨b', off', none⟩, cap'), rfl, fun k h => ⟨b', off', rfl, hc' k h⟩⟩
    obtain ⟨oa, cap'⟩ := av
    simp only at hv hcv
    subst hv
    have hml : l.length ≤ 9223372036854775807 := by unfold maxLen at hm; omega
    have Hc := Lib.hid hc
    have Hcv := Lib.hid hcv
    clear hc hcv
    go_enter Tryd.func38, Tryd.ntmps38
    go_wp2_with fail
    go_loopw [11] (fun i wr => ∃ k : Nat, k ≤ l.length ∧ k ≤ m.length ∧ i = .int .i64 (k : Int) ∧ lcmp (l.drop k) (m.drop k) = lcmp l m ∧ Ext w wr) (fun i _ => l.length - (intOf i).toNat)
    case atStart => exact ⟨0, by omega, by omega, rfl, rfl, Ext.refl _⟩
    case round =>
      obtain ⟨k, hk, hkm, rfl, hL, hE⟩ := hrel
      have HL := Lib.hid hL
      clear hL
      by_cases hlt : k < l.length
      · have g1 := hE.cell (Hc.out k hlt)
        by_cases hlt2 : k < m.length
        · obtain ⟨b', off', e1, g2'⟩ := Hcv.out k hlt2
          subst e1
          have g2 := hE.cell g2'
          clear g2'
          have lb : b < wr.heap.size := World.block_lt_of_cell? wr _ g1
          have lb' : b' < wr.heap.size := World.block_lt_of_cell? wr _ g2
          have hge : ¬ m.length ≤ k := by omega
          have hS := Lib.hid (fun h => lcmp_step hlt hlt2 h)
          have hP := Lib.hid (fun h => lcmp_part hlt hlt2 h)
          generalize l[k] = x at *
          generalize m[k] = y at *
          rcases scmp_rng x y with hq | hq | hq
          · have hp := cmpStr_any x y
            rw [hq] at hp
            have Hq : Hid (lcmp l m = -1) := Lib.hid (by rw [← HL.out, hP.out (by omega), hq])
            clear hq
            go_wp2_with ((refine (hp _).mono ?_); rintro e w1 ⟨rfl, rfl⟩)
            go_ret
            exact ⟨ret_int (by rw [Hq.out]), hE⟩
          · have hp := cmpStr_any x y
            rw [hq] at hp
            have Hq : Hid (lcmp (l.drop (k + 1)) (m.drop (k + 1)) = lcmp l m) := Lib.hid (by rw [← HL.out, hS.out hq])
            clear hq
            go_wp2_with ((refine (hp _).mono ?_); rintro e w1 ⟨rfl, rfl⟩)
            go_roundw
            case rel => exact ⟨k + 1, hlt, hlt2, by go_num, Hq.out, hE⟩
            case measure => simp [intOf]; omega
          · have hp := cmpStr_any x y
            rw [hq] at hp
            have Hq : Hid (lcmp l m = 1) := Lib.hid (by rw [← HL.out, hP.out (by omega), hq])
            clear hq
            go_wp2_with ((refine (hp _).mono ?_); rintro e w1 ⟨rfl, rfl⟩)
            go_ret
            exact ⟨ret_int (by rw [Hq.out]), hE⟩
        · have hge : m.length ≤ k := by omega
          have Hq : Hid (lcmp l m = 1) := Lib.hid (by rw [← HL.out, lcmp_more hlt hge])
          go_wp2_with fail
          go_ret
          exact ⟨ret_int (by rw [Hq.out]), hE⟩
      · obtain rfl : k = l.length := by omega
        have Hq : Hid (lcmp l m = if l.length < m.length then -1 else 0) := Lib.hid (by rw [← HL.out, lcmp_end (Nat.le_refl _)])
        go_wp2_with fail
        all_goals (go_ret; exact ⟨ret_int (by rw [Hq.out]; simp_all), hE⟩)
end Go.Proofs.YtioceakpmnhohaaDoor
