/-
  stamp.Parse: its walk. No conditions but the text's length.
-/
import Derived.Test.YtbofobakphlpbaaGreatDoorTpL
import Derived.Test.YtbofobakphlpbaaGreatDoorBare
import Derived.Test.YtbofobakphlpbaaGreatDoorParts
import Derived.Test.YtbofobakphlpbaaGreatDoorDetA
import Derived.RangeFuncBox
import Derived.Shelf.Strings.SlTrimAscii
namespace Go.Proofs.YtbofobakphlpbaaGreatDoor
open Go.RowKit Go.WideShapes Go.PlainAid

theorem setInfo : (Tryz.prog.info? 135).map (fun i => (i.zero, i.size)) = some (some (.agg (Array.replicate 256 (.bool false))), 256) := by kernel_rfl
def digB : ByteArray := ⟨#[48, 49, 50, 51, 52, 53, 54, 55, 56, 57]⟩
theorem trimD_any (t : ByteArray) (ht : t.size ≤ 1000) (w : World) : Calls Tryz.prog 51 #[.string t, .string ⟨#[48, 49, 50, 51, 52, 53, 54, 55, 56, 57]⟩] w fun e w' => ∃ r : ByteArray, e = .returned (.string r) ∧ r.toList.isEmpty = t.data.toList.all dig ∧ Ext w w' :=
  (Any.strings_Trim_laid Tryz.lays160 setInfo t ⟨#[48, 49, 50, 51, 52, 53, 54, 55, 56, 57]⟩ w (by omega) (by decide) (ascii_of_all (by decide))).mono fun _ _ ⟨h, k⟩ => ⟨_, h, by
    rw [b_empty]
    show (Lib.trimS t.data.toList [48, 49, 50, 51, 52, 53, 54, 55, 56, 57]).isEmpty = _
    rw [trimS_nil]
    congr 1
    funext c
    exact dig_set c, k⟩
def trimV0 (t : ByteArray) : ByteArray := ⟨(Lib.trimS t.data.toList [48]).toArray⟩
theorem trimV0_empty (t : ByteArray) : (trimV0 t).toList.isEmpty = t.data.toList.all (· == 48) := by
  rw [b_empty]
  show (Lib.trimS t.data.toList [48]).isEmpty = _
  rw [trimS_nil]
  congr 1
  funext c
  rw [Bool.eq_iff_iff]
  simp
theorem trimZ0_any (t : ByteArray) (ht : t.size ≤ 1000) (w : World) : Calls Tryz.prog 51 #[.string t, .string ⟨#[48]⟩] w fun e w' => e = .returned (.string (trimV0 t)) ∧ Ext w w' :=
  (Any.strings_Trim_laid Tryz.lays160 setInfo t ⟨#[48]⟩ w (by omega) (by decide) (ascii_of_all (by decide))).mono fun _ _ ⟨h, k⟩ => ⟨h, k⟩
set_option maxRecDepth 100000 in
theorem isDig_any (t : ByteArray) (ht : t.size ≤ 1000) (w : World) : Calls Tryz.prog 48 #[.string t] w fun e w' => e = .returned (.bool (isD t.data.toList)) ∧ Ext w w' := by
  have C := Lib.hid (fun w => trimD_any t ht w)
  have hd : Hid (isD t.data.toList = (!t.toList.isEmpty && t.data.toList.all dig)) := Lib.hid (by unfold isD; rw [b_empty])
  generalize t.data.toList.all dig = a at *
  cases hz : t.toList.isEmpty
  · have Hz := Lib.hid hz
    go_enter Tryz.func48, Tryz.ntmps48
    go_wp2_with fail
    refine (C.out _).mono ?_; rintro e w1 ⟨r, rfl, hr, hx1⟩
    have Hr := Lib.hid hr
    clear hr
    go_wp2_with fail
    go_ret
    exact ⟨ret_bool (by rw [hd.out, Hz.out, ← Hr.out]; simp), hx1⟩
  · have Hz := Lib.hid hz
    go_enter Tryz.func48, Tryz.ntmps48
    go_wp2_with fail
    go_ret
    exact ⟨ret_bool (by rw [hd.out, Hz.out]; rfl), (by show Below _ _ _; repeat' (first | (with_reducible exact Below.refl _ _) | (with_reducible assumption) | (with_reducible refine belowDrewN ?_ _) | (with_reducible refine Below.alloc ?_ ?_ _) | (with_reducible refine Below.drew ?_) | (with_reducible refine Below.setCell ?_ ?_ _) | go_size))⟩
theorem cutP_any (t : ByteArray) (ht : t.size ≤ 100000) (w : World) (hm : HasMax w) : Calls Tryz.prog 40 #[.string t, .string ⟨#[46]⟩] w fun e w' => e = .returned (.tuple #[.string ⟨(wholeS t.data.toList).toArray⟩, .string ⟨(partS t.data.toList).toArray⟩, .bool (pointS t.data.toList)]) ∧ Ext w w' := by
  obtain ⟨m, hm⟩ := hm
  exact (Tryz.strings_Cut t ⟨#[46]⟩ m w (by omega) hm).mono fun _ _ ⟨h, n, k⟩ => ⟨h, by rw [k]; exact (Ext.refl w).drewN n⟩
theorem cutPre_any (s : ByteArray) (w : World) : Calls Tryz.prog 47 #[.string s, .string ⟨#[45]⟩] w fun e w' => e = .returned (.tuple #[.string (uS s), .bool (negS s)]) ∧ Ext w w' := by
  refine (Tryz.strings_CutPrefix s ⟨#[45]⟩ w).mono fun e w' ⟨h, k⟩ => ⟨?_, by rw [k]; exact Ext.refl _⟩
  have e : ∀ l : List UInt8, Lib.hasPrefix l [45] = (l.head? == some 45) := fun l => by
    cases l with
    | nil => rfl
    | cons c r =>
      unfold Lib.hasPrefix
      show ((45 == c) && true) = (some c == some 45)
      rw [Bool.and_true, Bool.eq_iff_iff, beq_iff_eq, beq_iff_eq]
      constructor
      · intro h; rw [← h]
      · intro h; injection h with h; exact h.symm
  have e1 : Lib.hasPrefix s.data.toList [45] = negS s := e _
  have e2 : (⟨(Lib.trimPrefix s.data.toList [45]).toArray⟩ : ByteArray) = uS s := by
    refine b_eq ?_
    unfold Lib.trimPrefix uS
    rw [e1]
    cases negS s
    · rfl
    · rw [if_pos rfl, if_pos rfl, b_drop]; rfl
  rw [h]
  show Ending.returned (.tuple #[.string ⟨(Lib.trimPrefix s.data.toList [45]).toArray⟩, .bool (Lib.hasPrefix s.data.toList [45])]) = _
  rw [e1, e2]
theorem trimL0_any (t : ByteArray) (w : World) : Calls Tryz.prog 49 #[.string t, .string ⟨#[48]⟩] w fun e w' => e = .returned (.string ⟨(bareZ t.data.toList).toArray⟩) ∧ Ext w w' :=
  (Tryz.strings_TrimLeft_one t 48 (by decide) w).mono fun _ _ ⟨h, k⟩ => ⟨h, by rw [k]; exact Ext.refl _⟩

/-- What is below 0. -/
def unS (a b : Int) (more : Bool) : Int := if 0 < b + (more.toNat : Nat) then -a - 1 else -a
def unN (b : Int) (more : Bool) : Int := if 0 < b + (more.toNat : Nat) then 1000000000 - (b + (more.toNat : Nat)) else b + (more.toNat : Nat)
set_option maxHeartbeats 1600000 in
set_option maxRecDepth 100000 in
theorem under_any (a b : Int) (more : Bool) (ha0 : 0 ≤ a) (ha : a ≤ 1000000000000000) (hb0 : 0 ≤ b) (hb : b ≤ 999999999) (w : World) :
    Calls Tryz.prog 50 #[.agg #[.int .i64 a, .int .i64 b], .bool more] w fun e w' => e = .returned (.agg #[.int .i64 (unS a b more), .int .i64 (unN b more)]) ∧ Ext w w' := by
  cases more
  · by_cases h : 0 < b
    · have e1 : Hid (unS a b false = -a - 1 ∧ unN b false = 1000000000 - b) := Lib.hid (by
        unfold unS unN
        have h2 : 0 < b + ((false.toNat : Nat) : Int) := by show 0 < b + 0; omega
        rw [if_pos h2, if_pos h2]
        exact ⟨rfl, by show 1000000000 - (b + 0) = _; omega⟩)
      go_enter Tryz.func50, Tryz.ntmps50
      go_wp2_with fail
      go_returns
      exact ⟨ret_val (by rw [e1.out.1, e1.out.2]), (by show Below _ _ _; repeat' (first | (with_reducible exact Below.refl _ _) | (with_reducible assumption) | (with_reducible refine belowDrewN ?_ _) | (with_reducible refine Below.alloc ?_ ?_ _) | (with_reducible refine Below.drew ?_) | (with_reducible refine Below.setCell ?_ ?_ _) | go_size))⟩
    · have e1 : Hid (unS a b false = -a ∧ unN b false = b) := Lib.hid (by
        unfold unS unN
        have h2 : ¬ 0 < b + ((false.toNat : Nat) : Int) := by show ¬ 0 < b + 0; omega
        rw [if_neg h2, if_neg h2]
        exact ⟨rfl, by show b + 0 = _; omega⟩)
      go_enter Tryz.func50, Tryz.ntmps50
      go_wp2_with fail
      go_returns
      exact ⟨ret_val (by rw [e1.out.1, e1.out.2]), (by show Below _ _ _; repeat' (first | (with_reducible exact Below.refl _ _) | (with_reducible assumption) | (with_reducible refine belowDrewN ?_ _) | (with_reducible refine Below.alloc ?_ ?_ _) | (with_reducible refine Below.drew ?_) | (with_reducible refine Below.setCell ?_ ?_ _) | go_size))⟩
  · have e1 : Hid (unS a b true = -a - 1 ∧ unN b true = 1000000000 - (b + 1)) := Lib.hid (by
      unfold unS unN
      have h2 : 0 < b + ((true.toNat : Nat) : Int) := by show 0 < b + 1; omega
      rw [if_pos h2, if_pos h2]
      exact ⟨rfl, rfl⟩)
    have h : 0 < b + 1 := by omega
    go_enter Tryz.func50, Tryz.ntmps50
    go_wp2_with fail
    go_returns
    exact ⟨ret_val (by rw [e1.out.1, e1.out.2]), (by show Below _ _ _; repeat' (first | (with_reducible exact Below.refl _ _) | (with_reducible assumption) | (with_reducible refine belowDrewN ?_ _) | (with_reducible refine Below.alloc ?_ ?_ _) | (with_reducible refine Below.drew ?_) | (with_reducible refine Below.setCell ?_ ?_ _) | go_size))⟩

theorem secS_un (a b : Nat) (m : Bool) : secS true a b m = unS a b m ∧ nanoS true b m = unN b m := by
  have hm : m.toNat ≤ 1 := by cases m <;> decide
  unfold secS nanoS unS unN
  rw [if_pos rfl, if_pos rfl]
  by_cases h : 0 < b + m.toNat
  · have h2 : 0 < (b : Int) + (m.toNat : Nat) := by omega
    rw [if_pos h, if_pos h, if_pos h2, if_pos h2]
    exact ⟨rfl, by omega⟩
  · have h2 : ¬ 0 < (b : Int) + (m.toNat : Nat) := by omega
    rw [if_neg h, if_neg h, if_neg h2, if_neg h2]
    exact ⟨rfl, by omega⟩
theorem tp_setCell {w : World} {g i : Nat} {C : Array Value} {t : TypeId} {v : Value} (h : w.heap[g]? = some (.cells C t (0, 0))) : (w.setCell ⟨g, i, none⟩ v).heap[g]? = some (.cells (C.setIfInBounds i v) t (0, 0)) := by
  have hlt := lt_of_block h
  have h' : w.heap[g] = .cells C t (0, 0) := by simpa [Array.getElem?_eq_getElem hlt] using h
  show (w.heap.modify g _)[g]? = _
  rw [Array.getElem?_eq_getElem (by simpa using hlt), Array.getElem_modify_self, h']
  rfl
theorem tp_two {w : World} {g : Nat} {a b : Value} {t : TypeId} (h : w.heap[g]? = some (.cells #[a, b] t (0, 0))) : w.cell? ⟨g, 0, none⟩ = some a ∧ w.cell? ⟨g, 1, none⟩ = some b ∧ w.frozen? ⟨g, 0, none⟩ = false ∧ w.frozen? ⟨g, 1, none⟩ = false ∧ g < w.heap.size :=
  ⟨by simp [World.cell?, h], by simp [World.cell?, h], by simp [World.frozen?, h], by simp [World.frozen?, h], lt_of_block h⟩

set_option maxHeartbeats 8000000 in
set_option maxRecDepth 100000 in
theorem stampParse_any (s : ByteArray) (hs : s.size ≤ 100) (w : World) (hm : HasMax w) :
    Calls Tryz.prog 18 #[.string s] w fun e w' => e = .returned (.tuple #[.agg #[.int .i64 (pV s).1, .int .i64 (pV s).2.1], errOf (pV s).2.2]) ∧ Ext w w' := by
  obtain ⟨V, hV⟩ : ∃ V, V = pV s := ⟨_, rfl⟩
  obtain ⟨u, hu⟩ : ∃ u, u = uS s := ⟨_, rfl⟩
  obtain ⟨ng, hng⟩ : ∃ ng, ng = negS s := ⟨_, rfl⟩
  have hus : u.size ≤ 100 := by rw [hu]; exact Nat.le_trans (u_size s) hs
  have Pform : Hid (formS u.data.toList = false → V = (0, 0, 3)) := Lib.hid (by rw [hu, hV]; exact pV_form)
  have Plong : Hid (formS u.data.toList = true → 15 < (bareZ (wholeS u.data.toList)).length → V = (0, 0, 2)) := Lib.hid (by rw [hu, hV]; exact pV_long)
  have Pgood : Hid (∀ S N : Int, formS u.data.toList = true → ¬ 15 < (bareZ (wholeS u.data.toList)).length → S = secS ng (numL 0 (bareZ (wholeS u.data.toList))) (numL 0 (nineL (partS u.data.toList))) (moreL (partS u.data.toList)) →
      N = nanoS ng (numL 0 (nineL (partS u.data.toList))) (moreL (partS u.data.toList)) → V = if timeB S N then (S, N, 0) else (0, 0, 2)) := Lib.hid (by rw [hu, hV, hng]; exact fun S N => pV_good)
  have C1 := Lib.hid (fun w => cutPre_any s w)
  rw [← hu, ← hng] at C1
  rw [← hV]
  clear hV hu hng
  have C2 := Lib.hid (fun w hm => cutP_any u (by omega) w hm)
  obtain ⟨W, hW⟩ : ∃ W : ByteArray, W = ⟨(wholeS u.data.toList).toArray⟩ := ⟨_, rfl⟩
  obtain ⟨P, hP⟩ : ∃ P : ByteArray, P = ⟨(partS u.data.toList).toArray⟩ := ⟨_, rfl⟩
  obtain ⟨pt, hpt⟩ : ∃ pt, pt = pointS u.data.toList := ⟨_, rfl⟩
  have hWl : wholeS u.data.toList = W.data.toList := by rw [hW]
  have hPl : partS u.data.toList = P.data.toList := by rw [hP]
  have hWz : W.size ≤ 100 ∧ P.size ≤ 100 := by
    have hz : u.size = u.data.toList.length := rfl
    rw [b_size W, b_size P, ← hWl, ← hPl]
    unfold wholeS partS
    rcases cut_at u.data.toList 46 with h1 | ⟨a, b, h0, h1⟩
    · rw [cut_none h1]; exact ⟨by show u.data.toList.length ≤ _; omega, Nat.zero_le _⟩
    · rw [h0, cut_app h1]
      have : u.data.toList.length = a.length + (b.length + 1) := by rw [h0, List.length_append, List.length_cons]
      exact ⟨by show a.length ≤ _; omega, by show b.length ≤ _; omega⟩
  have hfm : formS u.data.toList = (isD W.data.toList && (!pt || isD P.data.toList)) := by unfold formS; rw [hWl, hPl, hpt]
  have hP0 : Hid (pt = false → P.data.toList = []) := Lib.hid (fun h => by rw [← hPl]; exact part_none (by rw [← hpt]; exact h))
  rw [← hW, ← hP, ← hpt] at C2
  rw [hWl, hPl] at Pgood
  rw [hWl] at Plong
  rw [hfm] at Pform Plong Pgood
  obtain ⟨hWz, hPz⟩ := hWz
  clear hW hP hpt hWl hPl hfm
  have C3 := Lib.hid (fun w => isDig_any W (by omega) w)
  have C4 := Lib.hid (fun w => isDig_any P (by omega) w)
  have hx0 : Ext w (w.alloc (.cells #[.int .i64 0, .int .i64 0] 51)) := (Ext.refl w).alloc _
  have hisW : Hid (isD W.data.toList = true → W.data.toList.all dig = true) := Lib.hid (fun h => by unfold isD at h; rw [Bool.and_eq_true] at h; exact h.2)
  have hisP : Hid (isD P.data.toList = true → P.data.toList.all dig = true) := Lib.hid (fun h => by unfold isD at h; rw [Bool.and_eq_true] at h; exact h.2)
  generalize isD W.data.toList = iW at *
  generalize isD P.data.toList = iP at *
  go_enter Tryz.func18, Tryz.ntmps18
  go_wp2_with fail
  refine (C1.out _).mono ?_; rintro e w1 ⟨rfl, hx1⟩
  go_wp2_with fail
  refine (C2.out _ (hm.ext (hx0.trans hx1))).mono ?_; rintro e w2 ⟨rfl, hx2⟩
  have hE2 := hx1.trans hx2
  clear hx1 hx2 C1 C2 hm
  go_upto_region 3 with fail
  go_cut [32] (fun g wx => g = .bool (!(iW && (!pt || iP))) ∧ Ext (w.alloc (.cells #[.int .i64 0, .int .i64 0] 51)) wx)
  case first =>
    as_aux_lemma =>
      go_wp2_with fail
      refine (C3.out _).mono ?_; rintro e w3 ⟨rfl, hx3⟩
      cases iW
      · go_wp2_with fail
        go_meet
        exact ⟨rfl, hE2.trans hx3⟩
      · cases pt
        · go_wp2_with fail
          go_meet
          exact ⟨rfl, hE2.trans hx3⟩
        · go_wp2_with fail
          refine (C4.out _).mono ?_; rintro e w4 ⟨rfl, hx4⟩
          cases iP
          all_goals
            go_wp2_with fail
            go_meet
            exact ⟨rfl, (hE2.trans hx3).trans hx4⟩
  case rest =>
    obtain ⟨rfl, hE3⟩ := hcut
    clear hE2 C3 C4
    cases hf : iW && (!pt || iP) with
    | false =>
      as_aux_lemma =>
        have hn : Hid (V = (0, 0, 3)) := Lib.hid (Pform.out hf)
        obtain ⟨r1, r2, r3, r4, r5⟩ := tp_box hE3
        clear hf
        go_wp2_with fail
        rw [hn.out]
        obtain ⟨s0, s1⟩ := tp_put r1 r2 (.int .i64 0) (.int .i64 0)
        exact bodyPost_ret (v := .tuple #[.agg #[.int .i64 0, .int .i64 0], errOf 3]) (by simp [results, Tryz.results18, go_sem, s0, s1]; rfl) rfl ⟨rfl, ((hx0.trans hE3).setCell (Nat.le_refl _) _).setCell (Nat.le_refl _) _⟩
    | true =>
      have hd : W.data.toList.all dig = true ∧ P.data.toList.all dig = true := by
        rw [Bool.and_eq_true, Bool.or_eq_true] at hf
        refine ⟨hisW.out hf.1, ?_⟩
        rcases hf.2 with h | h
        · rw [hP0.out (by simpa using h)]; rfl
        · exact hisP.out h
      have HWd := Lib.hid hd.1
      have HPd := Lib.hid hd.2
      have Pl := Lib.hid (Plong.out hf)
      have Pg := Lib.hid (fun S N => Pgood.out S N hf)
      clear hf hd Pform Plong Pgood hisW hisP hP0
      have C5 := Lib.hid (fun w => trimL0_any W w)
      obtain ⟨x, hx⟩ : ∃ x : ByteArray, x = ⟨(bareZ W.data.toList).toArray⟩ := ⟨_, rfl⟩
      have hxl : bareZ W.data.toList = x.data.toList := by rw [hx]
      have hxd : x.data.toList.all dig = true := by rw [← hxl]; exact bareZ_dig HWd.out
      have hxs : x.size ≤ 100 := by
        rw [b_size, ← hxl]
        refine Nat.le_trans ?_ hWz
        exact (List.dropWhile_sublist _).length_le
      rw [← hx] at C5
      rw [hxl] at Pl Pg
      have Hxd := Lib.hid hxd
      clear hx hxl hxd
      go_wp2_with fail
      refine (C5.out _).mono ?_; rintro e w3 ⟨rfl, hx3⟩
      have hE4 := hE3.trans hx3
      clear hE3 hx3
      by_cases h15 : 15 < x.size
      · as_aux_lemma =>
          have hn : Hid (V = (0, 0, 2)) := Lib.hid (Pl.out h15)
          obtain ⟨r1, r2, r3, r4, r5⟩ := tp_box hE4
          have q1 : decide ((15 : Int) < (x.size : Int)) = true := decide_eq_true (by omega)
          go_wp2_with fail
          rw [hn.out]
          obtain ⟨s0, s1⟩ := tp_put r1 r2 (.int .i64 0) (.int .i64 0)
          exact bodyPost_ret (v := .tuple #[.agg #[.int .i64 0, .int .i64 0], errOf 2]) (by simp [results, Tryz.results18, go_sem, s0, s1]; rfl) rfl ⟨rfl, ((hx0.trans hE4).setCell (Nat.le_refl _) _).setCell (Nat.le_refl _) _⟩
      · have q1 : decide ((15 : Int) < (x.size : Int)) = false := decide_eq_false (by omega)
        have hcat : ((⟨#[48]⟩ : ByteArray) ++ x).data.toList = 48 :: x.data.toList := by simp [ByteArray.data_append]
        have CA := Lib.hid (fun w => atoi_num_any ((⟨#[48]⟩ : ByteArray) ++ x) (by rw [ByteArray.size_append]; show 1 + x.size ≤ 18; omega) (by rw [hcat, List.all_cons, Hxd.out]; rfl) (by rw [hcat]; exact List.cons_ne_nil _ _) w)
        rw [hcat, zero_num] at CA
        have hsec := num15 Hxd.out h15
        have Pg2 := Lib.hid (fun S N => Pg.out S N h15)
        generalize numL 0 x.data.toList = sec at *
        clear Pg Pl hcat
        have hX9 : ((P ++ (⟨#[48, 48, 48, 48, 48, 48, 48, 48, 48]⟩ : ByteArray)).extract 0 9).data.toList = nineL P.data.toList := by
          rw [b_take, ByteArray.data_append, Array.toList_append]
          rfl
        have hX9s : ((P ++ (⟨#[48, 48, 48, 48, 48, 48, 48, 48, 48]⟩ : ByteArray)).extract 0 9).size = 9 := by
          rw [b_size, hX9, nine_len]
        have CN := Lib.hid (fun w => atoi_num_any ((P ++ (⟨#[48, 48, 48, 48, 48, 48, 48, 48, 48]⟩ : ByteArray)).extract 0 9) (by omega) (by rw [hX9]; exact nine_dig HPd.out) (by rw [hX9]; intro h; have := nine_len P.data.toList; rw [h] at this; cases this) w)
        rw [hX9] at CN
        have hn9 := nine_lt HPd.out
        obtain ⟨X9, hX90⟩ : ∃ X9, X9 = (P ++ (⟨#[48, 48, 48, 48, 48, 48, 48, 48, 48]⟩ : ByteArray)).extract 0 9 := ⟨_, rfl⟩
        rw [← hX90] at CN
        have Hmo : Hid (∀ h : 9 < P.size, (trimV0 (P.extract 9 P.size)).toList.isEmpty = !moreL P.data.toList) := Lib.hid (fun _ => by
          rw [trimV0_empty, b_drop]
          unfold moreL
          rw [Bool.not_not])
        have Hm0 : Hid (¬ 9 < P.size → moreL P.data.toList = false) := Lib.hid (fun h => by
          unfold moreL
          rw [List.drop_eq_nil_of_le (by rw [b_size] at h; omega)]
          rfl)
        generalize numL 0 (nineL P.data.toList) = nano at *
        generalize moreL P.data.toList = more at *
        have HX90 := Lib.hid hX90
        clear hX9 hX9s hX90
        go_wp2_with fail
        refine (CA.out _).mono ?_; rintro e w4 ⟨rfl, hx4⟩
        obtain ⟨g1, g2, g3, g4, g5⟩ := tp_box hx4
        have hH4 : w4.heap[w3.heap.size]? = some (.cells #[.int .i64 0, .int .i64 0] 51 (0, 0)) := (hx4.block _ (by rw [World.size_alloc]; omega)).trans (World.alloc_heap_new w3 _)
        have hE5 := (hE4.alloc _).trans hx4
        have hB := hE4.size
        rw [World.size_alloc] at hB
        clear hx4 CA hE4
        go_upto_region 10 with fail
        go_cut [10] (fun v wx => v = .string X9 ∧ wx.heap[w3.heap.size]? = some (.cells #[.int .i64 sec, .int .i64 0] 51 (0, 0)) ∧ Ext (w.alloc (.cells #[.int .i64 0, .int .i64 0] 51)) wx)
        case first =>
          as_aux_lemma =>
            have hsz : (9 : Int) ≤ ((P ++ (⟨#[48, 48, 48, 48, 48, 48, 48, 48, 48]⟩ : ByteArray)).size : Int) := by
              rw [ByteArray.size_append]
              show (9 : Int) ≤ ((P.size + 9 : Nat) : Int)
              omega
            go_wp2_with fail
            go_meet
            exact ⟨by rw [HX90.out], tp_setCell hH4, hE5.setCell (by rw [World.size_alloc]; exact hB) _⟩
        case rest =>
          obtain ⟨rfl, hH5, hE6⟩ := hcut
          clear g1 g2 g3 g4 g5 hH4 hE5 HX90
          go_wp2_with fail
          refine (CN.out _).mono ?_; rintro e w6 ⟨rfl, hx6⟩
          have hH6 := (hx6.block _ (lt_of_block hH5)).trans hH5
          have hE7 := hE6.trans hx6
          obtain ⟨g1, g2, g3, g4, g5⟩ := tp_two hH6
          clear hx6 hE6 hH5 CN
          go_upto_if 59 with fail
          go_cut [10] (fun v wx => v = .string X9 ∧ wx.heap[w3.heap.size]? = some (.cells #[.int .i64 (secS ng sec nano more), .int .i64 (nanoS ng nano more)] 51 (0, 0)) ∧ Ext (w.alloc (.cells #[.int .i64 0, .int .i64 0] 51)) wx)
          case first =>
            have hH7 : (w6.setCell ⟨w3.heap.size, 1, none⟩ (.int .i64 nano)).heap[w3.heap.size]? = some (.cells #[.int .i64 sec, .int .i64 nano] 51 (0, 0)) := tp_setCell hH6
            have hE8 : Ext (w.alloc (.cells #[.int .i64 0, .int .i64 0] 51)) (w6.setCell ⟨w3.heap.size, 1, none⟩ (.int .i64 nano)) := hE7.setCell (by rw [World.size_alloc]; exact hB) _
            clear g1 g2 g3 g4 g5 hH6 hE7
            generalize w6.setCell ⟨w3.heap.size, 1, none⟩ (.int .i64 nano) = W7 at *
            obtain ⟨g1, g2, g3, g4, g5⟩ := tp_two hH7
            cases ng with
            | false =>
              as_aux_lemma =>
                go_wp2_with fail
                go_meet
                exact ⟨rfl, hH7, hE8⟩
            | true =>
              have hs12 : Hid (secS true sec nano more = unS sec nano more ∧ nanoS true nano more = unN nano more) := Lib.hid (secS_un sec nano more)
              have CT := Lib.hid (fun w => trimZ0_any (P.extract 9 P.size) (by rw [ByteArray.size_extract]; omega) w)
              have CU := Lib.hid (fun m w => under_any sec nano m (by omega) (by omega) (by omega) (by omega) w)
              by_cases h9 : 9 < P.size
              · have q9 : decide ((9 : Int) < (P.size : Int)) = true := decide_eq_true (by omega)
                have hmo := Hmo.out h9
                generalize trimV0 (P.extract 9 P.size) = R0 at *
                cases more with
                | true =>
                  as_aux_lemma =>
                    have q8 : R0.toList.isEmpty = false := hmo
                    go_wp2_with fail
                    refine wp_region_detT (fun _ _ w9 => Stood _ w9) false 11 99 (by kernel_rfl) (by kernel_rfl) (Stood.start _) ?_
                    simp only [List.take_succ_cons, List.take_zero, List.drop_succ_cons, List.drop_zero]
                    repeat (first
                      | (refine detT_skip (by decide) (by rfl) ?_; simp only [Act.put, List.setIfInBounds_toArray, List.set_cons_zero, List.set_cons_succ, q9, q8])
                      | (refine detT_plain (v := ?_) (by decide) rfl (by rfl) (fun _ _ w' hS => ?_) ?_; rotate_left; (focus (obtain ⟨hcl, hxt⟩ := hS; go_wp2_with (first | ((with_reducible refine (CT.out _).mono ?_); rintro e w1 ⟨rfl, hx1⟩) | ((with_reducible refine (CU.out true _).mono ?_); rintro e w1 ⟨rfl, hx1⟩)); (first | refine ⟨?_, rfl, hcl, hxt⟩ | refine ⟨?_, rfl, Stood.of (hxt.trans (by assumption))⟩); (first | (simp only [List.getElem?_toArray, List.getElem?_cons_succ, List.getElem?_cons_zero]; rfl) | rfl))); simp only [Act.put, List.setIfInBounds_toArray, List.set_cons_zero, List.set_cons_succ]))
                    refine detT_end ?_
                    intro w8 hS
                    have hx8 := hS.2
                    have hH8 := (hx8.block _ (lt_of_block hH7)).trans hH7
                    obtain ⟨k1, k2, k3, k4, k5⟩ := tp_two hH8
                    clear hS
                    go_wp2_with fail
                    go_meet
                    exact ⟨rfl, by rw [hs12.out.1, hs12.out.2]; exact tp_setCell (tp_setCell hH8), ((hE8.trans hx8).setCell (by rw [World.size_alloc]; exact hB) _).setCell (by rw [World.size_alloc]; exact hB) _⟩
                | false =>
                  as_aux_lemma =>
                    have q8 : R0.toList.isEmpty = true := hmo
                    go_wp2_with fail
                    refine wp_region_detT (fun _ _ w9 => Stood _ w9) false 11 99 (by kernel_rfl) (by kernel_rfl) (Stood.start _) ?_
                    simp only [List.take_succ_cons, List.take_zero, List.drop_succ_cons, List.drop_zero]
                    repeat (first
                      | (refine detT_skip (by decide) (by rfl) ?_; simp only [Act.put, List.setIfInBounds_toArray, List.set_cons_zero, List.set_cons_succ, q9, q8])
                      | (refine detT_plain (v := ?_) (by decide) rfl (by rfl) (fun _ _ w' hS => ?_) ?_; rotate_left; (focus (obtain ⟨hcl, hxt⟩ := hS; go_wp2_with (first | ((with_reducible refine (CT.out _).mono ?_); rintro e w1 ⟨rfl, hx1⟩) | ((with_reducible refine (CU.out false _).mono ?_); rintro e w1 ⟨rfl, hx1⟩)); (first | refine ⟨?_, rfl, hcl, hxt⟩ | refine ⟨?_, rfl, Stood.of (hxt.trans (by assumption))⟩); (first | (simp only [List.getElem?_toArray, List.getElem?_cons_succ, List.getElem?_cons_zero]; rfl) | rfl))); simp only [Act.put, List.setIfInBounds_toArray, List.set_cons_zero, List.set_cons_succ]))
                    refine detT_end ?_
                    intro w8 hS
                    have hx8 := hS.2
                    have hH8 := (hx8.block _ (lt_of_block hH7)).trans hH7
                    obtain ⟨k1, k2, k3, k4, k5⟩ := tp_two hH8
                    clear hS
                    go_wp2_with fail
                    go_meet
                    exact ⟨rfl, by rw [hs12.out.1, hs12.out.2]; exact tp_setCell (tp_setCell hH8), ((hE8.trans hx8).setCell (by rw [World.size_alloc]; exact hB) _).setCell (by rw [World.size_alloc]; exact hB) _⟩
              · have q9 : decide ((9 : Int) < (P.size : Int)) = false := decide_eq_false (by omega)
                have hmo := Hm0.out h9
                subst hmo
                as_aux_lemma =>
                    go_wp2_with fail
                    refine wp_region_detT (fun _ _ w9 => Stood _ w9) false 11 99 (by kernel_rfl) (by kernel_rfl) (Stood.start _) ?_
                    simp only [List.take_succ_cons, List.take_zero, List.drop_succ_cons, List.drop_zero]
                    repeat (first
                      | (refine detT_skip (by decide) (by rfl) ?_; simp only [Act.put, List.setIfInBounds_toArray, List.set_cons_zero, List.set_cons_succ])
                      | (refine detT_plain (v := ?_) (by decide) rfl (by rfl) (fun _ _ w' hS => ?_) ?_; rotate_left; (focus (obtain ⟨hcl, hxt⟩ := hS; go_wp2_with (first | ((with_reducible refine (CT.out _).mono ?_); rintro e w1 ⟨rfl, hx1⟩) | ((with_reducible refine (CU.out false _).mono ?_); rintro e w1 ⟨rfl, hx1⟩)); (first | refine ⟨?_, rfl, hcl, hxt⟩ | refine ⟨?_, rfl, Stood.of (hxt.trans (by assumption))⟩); (first | (simp only [List.getElem?_toArray, List.getElem?_cons_succ, List.getElem?_cons_zero]; rfl) | rfl))); simp only [Act.put, List.setIfInBounds_toArray, List.set_cons_zero, List.set_cons_succ]))
                    refine detT_end ?_
                    intro w8 hS
                    have hx8 := hS.2
                    have hH8 := (hx8.block _ (lt_of_block hH7)).trans hH7
                    obtain ⟨k1, k2, k3, k4, k5⟩ := tp_two hH8
                    clear hS
                    go_wp2_with fail
                    go_meet
                    exact ⟨rfl, by rw [hs12.out.1, hs12.out.2]; exact tp_setCell (tp_setCell hH8), ((hE8.trans hx8).setCell (by rw [World.size_alloc]; exact hB) _).setCell (by rw [World.size_alloc]; exact hB) _⟩
          case rest =>
            obtain ⟨rfl, hH7, hE8⟩ := hcut
            have hV2 := Lib.hid (Pg2.out _ _ rfl rfl)
            clear Pg2 hH6 hE7 hn9 hsec g1 g2 g3 g4 g5 Hmo Hm0
            generalize secS ng sec nano more = S at *
            generalize nanoS ng nano more = N at *
            have C7 := Lib.hid (fun w => stampRight_any S N w)
            obtain ⟨g1, g2, g3, g4, g5⟩ := tp_two hH7
            go_wp2_with fail
            refine (C7.out _).mono ?_; rintro e w8 ⟨rfl, hx8⟩
            have hH8 := (hx8.block _ (lt_of_block hH7)).trans hH7
            have hE9 := hE8.trans hx8
            obtain ⟨k1, k2, k3, k4, k5⟩ := tp_two hH8
            obtain ⟨r1, r2, r3, r4, r5⟩ := tp_box hE9
            have hy8 := hx0.trans hE9
            have hne : w.heap.size ≠ w3.heap.size := by omega
            clear hx8 hE8 hE9 C7 g1 g2 g3 g4 g5
            cases ht : timeB S N with
            | true =>
              as_aux_lemma =>
                have hn : Hid (V = (S, N, 0)) := Lib.hid (by rw [hV2.out, ht]; rfl)
                clear ht
                go_wp2_with fail
                rw [hn.out]
                obtain ⟨s0, s1⟩ := tp_put r1 r2 (.int .i64 S) (.int .i64 N)
                exact bodyPost_ret (v := .tuple #[.agg #[.int .i64 S, .int .i64 N], errOf 0]) (by simp [results, Tryz.results18, go_sem, s0, s1]; rfl) rfl ⟨rfl, (hy8.setCell (Nat.le_refl _) _).setCell (Nat.le_refl _) _⟩
            | false =>
              as_aux_lemma =>
                have hn : Hid (V = (0, 0, 2)) := Lib.hid (by rw [hV2.out, ht]; rfl)
                clear ht
                go_wp2_with fail
                rw [hn.out]
                obtain ⟨s0, s1⟩ := tp_put r1 r2 (.int .i64 0) (.int .i64 0)
                exact bodyPost_ret (v := .tuple #[.agg #[.int .i64 0, .int .i64 0], errOf 2]) (by simp [results, Tryz.results18, go_sem, s0, s1]; rfl) rfl ⟨rfl, (hy8.setCell (Nat.le_refl _) _).setCell (Nat.le_refl _) _⟩
end Go.Proofs.YtbofobakphlpbaaGreatDoor
