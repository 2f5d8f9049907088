/-
  Is a name one of a tree's: path.Right and the reference's NameRight.
-/
import Derived.Test.YtmpcnjjibfcfmaaDoorCleanRef
import Derived.Lib.Bytealg
namespace Go.Proofs.YtmpcnjjibfcfmaaDoor
open Go.RowKit Go.WideShapes

/-- A piece as it must be. -/
def properB (x : ByteArray) : Bool := !(x.toList == [] || x.toList == [46] || x.toList == [46, 46])
theorem proper_keep {x : ByteArray} (h : properB x = true) : keepB x = true := by
  unfold properB at h
  unfold keepB keepL
  rw [ByteArray.toList_eq] at h
  simp at h ⊢
  exact h.1
theorem proper_dd {x : ByteArray} (h : properB x = true) : ddB x = false := by
  unfold properB at h
  unfold ddB
  simp at h ⊢
  exact h.2
theorem proper_of {x : ByteArray} (h : keepB x = true) (k : ddB x = false) : properB x = true := by
  unfold properB
  unfold keepB keepL at h
  unfold ddB at k
  rw [← ByteArray.toList_eq] at h
  simp at h k ⊢
  exact ⟨h, k⟩
def goodB (s : ByteArray) : Bool := (piecesB s).all properB
theorem filter_all {α : Type} {p : α → Bool} : ∀ {l : List α}, l.all p = true → l.filter p = l
  | [], _ => rfl
  | x :: t, h => by
    simp only [List.all_cons, Bool.and_eq_true] at h
    rw [List.filter_cons, if_pos h.1, filter_all h.2]
theorem good_parts {s : ByteArray} (h : goodB s = true) : partsB s = piecesB s := by
  unfold partsB
  exact filter_all (List.all_eq_true.2 fun x hx => proper_keep (List.all_eq_true.1 h x hx))
theorem mk_data (s : ByteArray) : (⟨s.data.toList.toArray⟩ : ByteArray) = s := by cases s; simp
theorem joinV_pieces (s : ByteArray) : joinV (piecesB s) = s := by
  unfold joinV
  rw [pieces_sl, join_sl]
theorem good_clean {s : ByteArray} (h : goodB s = true) : joinV (cleanV ddB (partsB s)).1 = s ∧ (cleanV ddB (partsB s)).2 = true := by
  rw [good_parts h]
  have e := cfold_plain ddB (piecesB s) ([], true) (fun y hy => proper_dd (List.all_eq_true.1 h y hy))
  unfold cleanV
  rw [e]
  exact ⟨by simpa using joinV_pieces s, rfl⟩
theorem cfold_nodd : ∀ (l : List ByteArray) (st : List ByteArray × Bool), (∀ x ∈ st.1, ddB x = false) → ∀ x ∈ (cfold ddB l st).1, ddB x = false
  | [], st, h => h
  | y :: t, st, h => by
    refine cfold_nodd t (cstep ddB st y) (fun x hx => ?_)
    unfold cstep at hx
    split at hx
    · split at hx
      · simp at hx
      · exact h x (List.dropLast_subset _ hx)
    · rename_i hy
      rcases List.mem_append.1 hx with hx | hx
      · exact h x hx
      · simp at hx; subst hx; simpa using hy
theorem data_inj : ∀ {l m : List ByteArray}, l.map (·.data.toList) = m.map (·.data.toList) → l = m
  | [], [], _ => rfl
  | [], _ :: _, h => by simp at h
  | _ :: _, [], h => by simp at h
  | x :: s, y :: t, h => by
    simp only [List.map_cons, List.cons.injEq] at h
    have e : x = y := ByteArray.ext (Array.ext' h.1)
    rw [e, data_inj h.2]
theorem clean_good {s : ByteArray} (hs : s.size ≠ 0) (h1 : joinV (cleanV ddB (partsB s)).1 = s) : goodB s = true := by
  have hne : (cleanV ddB (partsB s)).1 ≠ [] := fun e => by
    rw [e] at h1
    have : (joinV []).size = 0 := rfl
    rw [h1] at this; exact hs this
  have hm : ∀ x ∈ (cleanV ddB (partsB s)).1, keepB x = true ∧ (47 : UInt8) ∉ x.data.toList := cleanV_mem ddB fun x hx => by
    obtain ⟨hp, hk⟩ := List.mem_filter.1 hx
    refine ⟨hk, sl_no47 s.data.toList _ ?_⟩
    rw [← pieces_sl]
    exact List.mem_map_of_mem hp
  have hd : ∀ x ∈ (cleanV ddB (partsB s)).1, ddB x = false := cfold_nodd _ _ (by simp)
  generalize (cleanV ddB (partsB s)).1 = L at *
  have e : piecesB s = L := data_inj (by
    rw [pieces_sl, ← h1]
    unfold joinV
    have := sl_join (L.map (·.data.toList)) (by simpa using hne) (fun x hx => by
      obtain ⟨y, hy, rfl⟩ := List.mem_map.1 hx
      exact (hm y hy).2)
    simpa using this)
  unfold goodB
  rw [e]
  exact List.all_eq_true.2 fun x hx => proper_of (hm x hx).1 (hd x hx)
theorem good_size {s : ByteArray} (h : goodB s = true) : s.size ≠ 0 := fun e => by
  have h0 : s.data.toList = [] := by
    have h' : s.data.size = 0 := e
    simp [Array.eq_empty_of_size_eq_zero h']
  have hp := pieces_sl s
  rw [h0] at hp
  unfold goodB at h
  cases hl : piecesB s with
  | nil => rw [hl] at hp; simp [sl] at hp
  | cons x t =>
    rw [hl] at hp h
    simp only [sl, List.map_cons, List.cons.injEq] at hp
    simp only [List.all_cons, Bool.and_eq_true] at h
    have := h.1
    unfold properB at this
    rw [ByteArray.toList_eq, hp.1] at this
    simp at this
theorem piece_bad {s : ByteArray} {k : Nat} (h : k < (piecesB s).length) (hb : properB (piecesB s)[k] = false) : goodB s = false := by
  unfold goodB
  rw [List.all_eq_false]
  exact ⟨_, List.getElem_mem h, by simp [hb]⟩
theorem piece_all {s : ByteArray} (h : ∀ j (hj : j < (piecesB s).length), properB (piecesB s)[j] = true) : goodB s = true := by
  unfold goodB
  rw [List.all_eq_true]
  intro x hx
  obtain ⟨j, hj, rfl⟩ := List.getElem_of_mem hx
  exact h j hj

/-- Where the first byte 0 lies, -1 if there is none. -/
def zeroI (s : ByteArray) : Int := Lib.indexByte s.data.toList 0
def rightV (s : ByteArray) : Bool := goodB s && decide ((s.size : Int) ≤ 120) && decide (((piecesB s).length : Int) ≤ 12) && decide (zeroI s < 0)

theorem empty_size {s : ByteArray} (h : s.toList.isEmpty = true) : s.size = 0 := by
  rw [ByteArray.toList_eq] at h
  have h' : s.data.toList = [] := List.isEmpty_iff.1 h
  have := congrArg List.length h'
  simpa using this
theorem size_empty {s : ByteArray} (h : s.size ≠ 0) : s.toList.isEmpty = false := by
  cases e : s.toList.isEmpty with
  | false => rfl
  | true => exact (h (empty_size e)).elim

set_option maxHeartbeats 1600000 in
set_option maxRecDepth 100000 in
theorem pathRight_any (s : ByteArray) (hs : s.size ≤ 100000) (w : World) (hm : HasMax w) : Calls Tryd.prog 19 #[.string s] w fun e w' => e = .returned (.bool (rightV s)) ∧ Ext w w' := by
  have c1 := fun w hm => clean_any s hs w hm
  have c3 := fun w => Tryd.strings_IndexByte s 0 w
  rw [show Lib.indexByte s.data.toList (Int.toNat 0).toUInt8 = zeroI s from rfl] at c3
  have hd : Hid (rightV s = (goodB s && decide ((s.size : Int) ≤ 120) && decide (((piecesB s).length : Int) ≤ 12) && decide (zeroI s < 0))) := Lib.hid rfl
  have C3 := Lib.hid c3
  clear c3
  generalize zeroI s = z at *
  cases hg : goodB s with
  | true =>
    obtain ⟨e1, e2⟩ := good_clean hg
    rw [e1, e2] at c1
    have hne := size_empty (good_size hg)
    have c2 := fun w hm => parts_any s (by omega) w hm
    rw [good_parts hg] at c2
    have hpl := pieces_le s
    rw [hg] at hd
    have C1 := Lib.hid c1
    have C2 := Lib.hid c2
    clear c1 c2 e1 e2 hg
    generalize piecesB s = P at *
    by_cases h120 : (s.size : Int) ≤ 120
    · by_cases h12 : (P.length : Int) ≤ 12
      · go_enter Tryd.func19, Tryd.ntmps19
        go_wp2_with fail
        refine (C1.out _ hm).mono ?_; rintro e w1 ⟨rfl, hx1⟩
        go_wp2_with fail
        refine (C2.out _ (hm.ext hx1)).mono ?_; rintro e w2 ⟨v, rfl, hv, hx2⟩
        obtain ⟨oa, cap, rfl, _, _⟩ := hv.open
        clear hv
        go_wp2_with fail
        refine (C3.out _).mono ?_; rintro e w3 ⟨rfl, rfl⟩
        go_wp2_with fail
        go_ret
        exact ⟨ret_bool (by rw [hd.out]; simp [h120, h12]), hx1.trans hx2⟩
      · go_enter Tryd.func19, Tryd.ntmps19
        go_wp2_with fail
        refine (C1.out _ hm).mono ?_; rintro e w1 ⟨rfl, hx1⟩
        go_wp2_with fail
        refine (C2.out _ (hm.ext hx1)).mono ?_; rintro e w2 ⟨v, rfl, hv, hx2⟩
        obtain ⟨oa, cap, rfl, _, _⟩ := hv.open
        clear hv
        go_wp2_with fail
        go_ret
        exact ⟨ret_bool (by rw [hd.out]; simp; omega), hx1.trans hx2⟩
    · go_enter Tryd.func19, Tryd.ntmps19
      go_wp2_with fail
      refine (C1.out _ hm).mono ?_; rintro e w1 ⟨rfl, hx1⟩
      go_wp2_with fail
      go_ret
      exact ⟨ret_bool (by rw [hd.out]; simp; omega), hx1⟩
  | false =>
    rw [hg] at hd
    have hb : (cleanV ddB (partsB s)).2 = false ∨ ((joinV (cleanV ddB (partsB s)).1).toList == s.toList) = false ∨ s.toList.isEmpty = true := by
      by_cases h0 : s.size = 0
      · refine .inr (.inr ?_)
        rw [ByteArray.toList_eq]
        have h' : s.data.size = 0 := h0
        simp [Array.eq_empty_of_size_eq_zero h']
      · refine .inr (.inl ?_)
        rw [beq_eq_false_iff_ne]
        intro e
        have e' : joinV (cleanV ddB (partsB s)).1 = s := by
          rw [ByteArray.toList_eq, ByteArray.toList_eq] at e
          exact ByteArray.ext (Array.ext' e)
        rw [clean_good h0 e'] at hg
        cases hg
    clear hg
    generalize joinV (cleanV ddB (partsB s)).1 = t at *
    generalize (cleanV ddB (partsB s)).2 = ok at *
    have C1 := Lib.hid c1
    clear c1
    cases ok with
    | false =>
      clear hb
      go_enter Tryd.func19, Tryd.ntmps19
      go_wp2_with fail
      refine (C1.out _ hm).mono ?_; rintro e w1 ⟨rfl, hx1⟩
      go_wp2_with fail
      go_ret
      exact ⟨ret_bool (by rw [hd.out]; simp), hx1⟩
    | true =>
      cases ht : (t.toList == s.toList) with
      | false =>
        clear hb
        go_enter Tryd.func19, Tryd.ntmps19
        go_wp2_with fail
        refine (C1.out _ hm).mono ?_; rintro e w1 ⟨rfl, hx1⟩
        go_wp2_with fail
        go_ret
        exact ⟨ret_bool (by rw [hd.out]; simp), hx1⟩
      | true =>
        have he : s.toList.isEmpty = true := by rcases hb with h | h | h; cases h; rw [ht] at h; cases h; exact h
        clear hb
        go_enter Tryd.func19, Tryd.ntmps19
        go_wp2_with fail
        refine (C1.out _ hm).mono ?_; rintro e w1 ⟨rfl, hx1⟩
        go_wp2_with fail
        go_ret
        exact ⟨ret_bool (by rw [hd.out]; simp), hx1⟩

set_option maxHeartbeats 1600000 in
set_option maxRecDepth 100000 in
theorem nameRight_any (s : ByteArray) (hs : s.size ≤ 100000) (w : World) (hm : HasMax w) : Calls Tryd.prog 20 #[.string s] w fun e w' => e = .returned (.bool (rightV s)) ∧ Ext w w' := by
  obtain ⟨m, hm⟩ := hm
  have c3 := fun w => Tryd.strings_IndexByte s 0 w
  rw [show Lib.indexByte s.data.toList (Int.toNat 0).toUInt8 = zeroI s from rfl] at c3
  have hd : Hid (rightV s = (goodB s && decide ((s.size : Int) ≤ 120) && decide (((piecesB s).length : Int) ≤ 12) && decide (zeroI s < 0))) := Lib.hid rfl
  have C3 := Lib.hid c3
  clear c3
  generalize zeroI s = z at *
  by_cases h0 : s.size = 0
  · have he : s.toList.isEmpty = true := by
      rw [ByteArray.toList_eq]
      have h' : s.data.size = 0 := h0
      simp [Array.eq_empty_of_size_eq_zero h']
    have hg : Hid (goodB s = false) := Lib.hid (by cases h : goodB s with | false => rfl | true => exact (good_size h h0).elim)
    clear h0
    go_enter Tryd.func20, Tryd.ntmps20
    go_wp2_with fail
    go_ret
    exact ⟨ret_bool (by rw [hd.out, hg.out]; simp), (by show Below _ _ _; repeat' (first | (with_reducible exact Below.refl _ _) | (with_reducible assumption) | (with_reducible refine belowDrewN ?_ _) | (with_reducible refine Below.alloc ?_ ?_ _) | (with_reducible refine Below.drew ?_) | (with_reducible refine Below.setCell ?_ ?_ _) | go_size))⟩
  · have he := size_empty h0
    clear h0
    by_cases h120 : 120 < (s.size : Int)
    · go_enter Tryd.func20, Tryd.ntmps20
      go_wp2_with fail
      go_ret
      exact ⟨ret_bool (by rw [hd.out]; simp; omega), (by show Below _ _ _; repeat' (first | (with_reducible exact Below.refl _ _) | (with_reducible assumption) | (with_reducible refine belowDrewN ?_ _) | (with_reducible refine Below.alloc ?_ ?_ _) | (with_reducible refine Below.drew ?_) | (with_reducible refine Below.setCell ?_ ?_ _) | go_size))⟩
    · have h120' : (s.size : Int) ≤ 120 := by omega
      by_cases hz : 0 ≤ z
      · go_enter Tryd.func20, Tryd.ntmps20
        go_wp2_with ((refine (C3.out _).mono ?_); rintro e w3 ⟨rfl, rfl⟩)
        go_ret
        exact ⟨ret_bool (by rw [hd.out]; simp; omega), (by show Below _ _ _; repeat' (first | (with_reducible exact Below.refl _ _) | (with_reducible assumption) | (with_reducible refine belowDrewN ?_ _) | (with_reducible refine Below.alloc ?_ ?_ _) | (with_reducible refine Below.drew ?_) | (with_reducible refine Below.setCell ?_ ?_ _) | go_size))⟩
      · have hsp := Tryd.strings_Split s ⟨#[47]⟩ m w (by omega) hm (by decide)
        obtain ⟨l, hl⟩ : ∃ l : List ByteArray, l = piecesB s := ⟨_, rfl⟩
        have hln : Lib.countB s ⟨#[47]⟩ + 1 = l.length := by rw [hl, ← pieces_len]
        have hll : l.length ≤ 1000001 := by rw [hl]; have := pieces_le s; omega
        have hcells : ((Lib.splitB ⟨#[47]⟩ 0 (Lib.countB s ⟨#[47]⟩) s).map Value.string).toArray = (l.map Value.string).toArray := by rw [hl]; rfl
        rw [hcells, hln] at hsp
        have Hsp := Lib.hid hsp
        have hc : Hid (∀ j (h : j < l.length), (w.alloc (.cells (l.map Value.string).toArray 9)).cell? ⟨w.heap.size, 0 + j, none⟩ = some (.string l[j])) := Lib.hid (fun j hj => by simp [hj])
        have hbad : Hid (∀ k (h : k < l.length), properB l[k] = false → goodB s = false) := Lib.hid (fun k h hb => by subst hl; exact piece_bad h hb)
        have hall : Hid ((∀ j (h : j < l.length), properB l[j] = true) → goodB s = true) := Lib.hid (fun h => piece_all (by subst hl; exact h))
        have Hll : Hid ((piecesB s).length = l.length) := Lib.hid (by rw [hl])
        clear hsp hcells hln hl
        go_enter Tryd.func20, Tryd.ntmps20
        go_wp2_with ((refine (C3.out _).mono ?_); rintro e w3 ⟨rfl, hw3⟩; rw [hw3]; clear hw3 w3)
        refine Hsp.out.mono ?_; rintro e w1 ⟨rfl, rfl⟩
        go_wp2_with fail
        go_loopw [22] (fun i wr => ∃ k : Nat, k ≤ l.length ∧ i = .int .i64 (k : Int) ∧ (∀ j (h : j < l.length), j < k → properB l[j] = true) ∧ Ext (w.alloc (.cells (l.map Value.string).toArray 9)) wr) (fun i _ => l.length - (intOf i).toNat)
        case atStart => exact ⟨0, by omega, rfl, fun j h h' => by omega, Ext.refl _⟩
        case round =>
          obtain ⟨k, hk, rfl, hpre, hE⟩ := hrel
          have Hpre := Lib.hid hpre
          clear hpre
          by_cases hlt : k < l.length
          · have g1 := hE.cell (hc.out k hlt)
            rw [Nat.zero_add] at g1
            have hb1 := Lib.hid (hbad.out k hlt)
            have hn1 : Hid (properB l[k] = true → ∀ j (h : j < l.length), j < k + 1 → properB l[j] = true) := Lib.hid (fun hp j h hj => by
              rcases Nat.lt_or_ge j k with h' | h'
              · exact Hpre.out j h h'
              · obtain rfl : j = k := by omega
                exact hp)
            have hpd : Hid (properB l[k] = !(l[k].toList == [] || l[k].toList == [46] || l[k].toList == [46, 46])) := Lib.hid rfl
            generalize l[k] = x at *
            rcases (show x.toList.isEmpty = true ∨ (x.toList.isEmpty = false ∧ (x.toList == [46]) = true) ∨ (x.toList.isEmpty = false ∧ (x.toList == [46]) = false ∧ (x.toList == [46, 46]) = true) ∨ (x.toList.isEmpty = false ∧ (x.toList == [46]) = false ∧ (x.toList == [46, 46]) = false) by
              cases x.toList.isEmpty <;> cases (x.toList == [46]) <;> cases (x.toList == [46, 46]) <;> simp) with t1 | ⟨t1, t2⟩ | ⟨t1, t2, t3⟩ | ⟨t1, t2, t3⟩
            · have Hb := Lib.hid (hb1.out (by rw [hpd.out]; have : x.toList = [] := by simpa using t1
                                              simp [this]))
              go_wp2_with fail
              go_ret
              exact ⟨ret_bool (by rw [hd.out, Hb.out]; simp), Ext.trans ((Ext.refl w).alloc _) hE⟩
            · have Hb := Lib.hid (hb1.out (by rw [hpd.out, t2]; simp))
              go_wp2_with fail
              go_ret
              exact ⟨ret_bool (by rw [hd.out, Hb.out]; simp), Ext.trans ((Ext.refl w).alloc _) hE⟩
            · have Hb := Lib.hid (hb1.out (by rw [hpd.out, t3]; simp))
              go_wp2_with fail
              go_ret
              exact ⟨ret_bool (by rw [hd.out, Hb.out]; simp), Ext.trans ((Ext.refl w).alloc _) hE⟩
            · have Hn := Lib.hid (hn1.out (by rw [hpd.out, t2, t3]; have : (x.toList == []) = false := by rw [beq_eq_false_iff_ne]; intro e; rw [e] at t1; cases t1
                                              rw [this]; rfl))
              go_wp2_with fail
              go_roundw
              case rel => exact ⟨k + 1, hlt, by go_num, Hn.out, hE⟩
              case measure => simp [intOf]; omega
          · obtain rfl : k = l.length := by omega
            have Hg := Lib.hid (hall.out (fun j h => Hpre.out j h h))
            go_wp2_with fail
            go_ret
            exact ⟨ret_bool (by rw [hd.out, Hg.out, Hll.out]; simp [h120']; omega), Ext.trans ((Ext.refl w).alloc _) hE⟩
end Go.Proofs.YtmpcnjjibfcfmaaDoor
