/-
  pax.first: its walk. No conditions but the text's length.
-/
import Derived.Test.YtbofobakphlpbaaDoorPrV
import Derived.Test.YtbofobakphlpbaaDoorParts
import Derived.Lib.AtoiBound
namespace Go.Proofs.YtbofobakphlpbaaDoor
open Go.RowKit Go.WideShapes

/-- The record with which a text begins, if there is one. -/
def IsFirst (u : ByteArray) (R : Option (ByteArray × ByteArray × Nat)) : Prop := (∀ k v n, R = some (k, v, n) → HasRec u k v n) ∧ (R = none → ∀ k v n, ¬ HasRec u k v n)
theorem first_is (u : ByteArray) : ∃ R, IsFirst u R := by
  by_cases h : ∃ k v n, HasRec u k v n
  · obtain ⟨k, v, n, h⟩ := h
    exact ⟨some (k, v, n), fun k' v' n' e => by cases e; exact h, fun e => by cases e⟩
  · exact ⟨none, (⟨fun _ _ _ e => (by cases e), fun _ k v n hr => h ⟨k, v, n, hr⟩⟩ : IsFirst u none)⟩
theorem first_some {u k v : ByteArray} {n : Nat} {R : Option (ByteArray × ByteArray × Nat)} (hR : IsFirst u R) (h : HasRec u k v n) : R = some (k, v, n) := by
  cases R with
  | none => exact absurd h (hR.2 rfl k v n)
  | some x =>
    obtain ⟨k', v', n'⟩ := x
    obtain ⟨e1, e2, e3⟩ := rec_uniq h (hR.1 _ _ _ rfl)
    rw [e1, e2, e3]
theorem first_none {u : ByteArray} {R : Option (ByteArray × ByteArray × Nat)} (hR : IsFirst u R) (h : ∀ k v n, ¬ HasRec u k v n) : R = none := by
  cases R with
  | none => rfl
  | some x =>
    obtain ⟨k', v', n'⟩ := x
    exact absurd (hR.1 _ _ _ rfl) (h _ _ _)
def firstR : Option (ByteArray × ByteArray × Nat) → Value
  | some (k, v, n) => .tuple #[.agg #[.string k, .string v], .int .i64 (n : Int), .bool true]
  | none => .tuple #[.agg #[.string ⟨#[]⟩, .string ⟨#[]⟩], .int .i64 0, .bool false]

/-- The number ahead of the first space among six bytes. -/
def numP (u : ByteArray) : ByteArray := ⟨(Lib.cut (u.extract 0 (min u.size 6)).data.toList [32]).1.toArray⟩
def spP (u : ByteArray) : Bool := (Lib.cut (u.extract 0 (min u.size 6)).data.toList [32]).2.2
def midP (u : ByteArray) (n : Nat) : ByteArray := u.extract ((numP u).size + 1) (n - 1)
theorem rec_tests {u k v : ByteArray} {n : Nat} (h : HasRec u k v n) : spP u = true ∧ Lib.atoi (numP u).data.toList = some (n : Int) ∧ 1 ≤ n ∧ n ≤ u.size ∧ (numP u).size + 4 ≤ n ∧
    Lib.cut (midP u n).data.toList [61] = (k.data.toList, v.data.toList, true) := by
  obtain ⟨r, h1, h2⟩ := rec_read h
  obtain ⟨p1, p2, p3, p4, p5⟩ := rec_parts h
  obtain ⟨a1, a2, a3, a4⟩ := pair_key h.1
  have e : (numP u).data.toList = Lib.decDigits n := by unfold numP; rw [h1]
  have hz : (numP u).size = (Lib.decDigits n).length := by rw [b_size, e]
  refine ⟨by unfold spP; rw [h1], by rw [e]; exact atoi_digits n, by omega, h.2.1, by omega, ?_⟩
  unfold midP
  rw [hz]
  exact h2
theorem numP_size (u : ByteArray) : (numP u).size ≤ 6 := by
  unfold numP
  have h6 : (u.extract 0 (min u.size 6)).data.toList.length ≤ 6 := by
    rw [b_take, List.length_take]; omega
  rcases cut_at (u.extract 0 (min u.size 6)).data.toList 32 with h | ⟨a, b, h0, h⟩
  · rw [cut_none h]; show (Array.size _) ≤ 6; rw [List.size_toArray]; exact h6
  · rw [h0, cut_app h]
    rw [h0, List.length_append, List.length_cons] at h6
    show (Array.size _) ≤ 6
    rw [List.size_toArray]
    show a.length ≤ 6
    omega

/-- The library's ErrSyntax is an error. -/
def HasSyn (w : World) : Prop := ∃ te pe, w.cell? ⟨6, 0, none⟩ = some (.iface te pe)
theorem HasSyn.ext {w w' : World} (h : HasSyn w) (hE : Ext w w') : HasSyn w' := by
  obtain ⟨a, b, h⟩ := h
  exact ⟨a, b, hE.cell h⟩
theorem prW_ext (w : World) (t : TypeId) (k : ByteArray) : Ext w (Lib.bytesWorld w t k) := by
  refine ⟨rfl, rfl, rfl, ?_, fun b hb => ?_⟩
  · show w.heap.size ≤ ((w.drew.alloc _).freeze _ _).heap.size
    simp [World.freeze]
  · show ((w.drew.alloc _).freeze _ _).heap[b]? = _
    have h2 : ((w.drew.alloc (Obj.cells (Lib.bytesCells w t k) t)).heap)[b]? = w.heap[b]? := by
      show (w.heap.push _)[b]? = _
      rw [Array.getElem?_push_lt hb, Array.getElem?_eq_getElem hb]
    rw [← h2]
    simp only [World.freeze]
    rw [if_neg (by decide)]
    show ((w.drew.alloc (Obj.cells (Lib.bytesCells w t k) t)).heap.modify w.heap.size _)[b]? = _
    rw [Array.getElem?_modify, if_neg (by omega)]
theorem atoiOk_any (u : ByteArray) (n : Int) (hl : u.size ≤ 18) (h : Lib.atoi u.data.toList = some n) (w : World) : Calls Tryd.prog 66 #[.string u] w fun e w' => e = .returned (.tuple #[.int .i64 n, .nilIface]) ∧ Ext w w' :=
  (Tryd.strconv_Atoi u _ hl h w).mono fun _ _ ⟨h, k⟩ => ⟨h, by obtain ⟨t, rfl⟩ := k; exact prW_ext _ _ _⟩
theorem atoiBad_any (u : ByteArray) (hl : u.size ≤ 18) (h : Lib.atoi u.data.toList = none) (w : World) (hs : HasSyn w) : Calls Tryd.prog 66 #[.string u] w fun e w' => ∃ N : Nat, e = .returned (.tuple #[.int .i64 0, .iface 187 (.pointer (some ⟨N, 0, none⟩))]) ∧ Ext w w' := by
  obtain ⟨te, pe, hs⟩ := hs
  exact (Tryd.strconv_Atoi_err u hl h _ w hs (.inr ⟨te, pe, rfl⟩)).mono fun _ _ ⟨N, h, _, _, k⟩ => ⟨N, h, k⟩
theorem cutSp_any (u : ByteArray) (hu : u.size ≤ 100000) (w : World) (hm : HasMax w) : Calls Tryd.prog 65 #[.string (u.extract 0 (min u.size 6)), .string ⟨#[32]⟩] w fun e w' => ∃ r : ByteArray, e = .returned (.tuple #[.string (numP u), .string r, .bool (spP u)]) ∧ Ext w w' := by
  obtain ⟨m, hm⟩ := hm
  exact (Tryd.strings_Cut (u.extract 0 (min u.size 6)) ⟨#[32]⟩ m w (by rw [ByteArray.size_extract]; omega) hm).mono fun _ _ ⟨h, n, k⟩ => ⟨_, h, by rw [k]; exact (Ext.refl w).drewN n⟩
theorem cutEq_any (t : ByteArray) (ht : t.size ≤ 100000) (w : World) (hm : HasMax w) : Calls Tryd.prog 65 #[.string t, .string ⟨#[61]⟩] w fun e w' => e = .returned (.tuple #[.string ⟨(Lib.cut t.data.toList [61]).1.toArray⟩, .string ⟨(Lib.cut t.data.toList [61]).2.1.toArray⟩, .bool (Lib.cut t.data.toList [61]).2.2]) ∧ Ext w w' := by
  obtain ⟨m, hm⟩ := hm
  exact (Tryd.strings_Cut t ⟨#[61]⟩ m w (by omega) hm).mono fun _ _ ⟨h, n, k⟩ => ⟨h, by rw [k]; exact (Ext.refl w).drewN n⟩
theorem pr_box {w W : World} {a b : ByteArray} {t : TypeId} (h : Ext (w.alloc (.cells #[.string a, .string b] t)) W) :
    W.cell? ⟨w.heap.size, 0, none⟩ = some (.string a) ∧ W.cell? ⟨w.heap.size, 1, none⟩ = some (.string b) ∧ W.frozen? ⟨w.heap.size, 0, none⟩ = false ∧ W.frozen? ⟨w.heap.size, 1, none⟩ = false ∧ w.heap.size < W.heap.size := by
  have h1 := h.cell (show (w.alloc (.cells #[.string a, .string b] t)).cell? ⟨w.heap.size, 0, none⟩ = some (.string a) by simp)
  have h2 := h.cell (show (w.alloc (.cells #[.string a, .string b] t)).cell? ⟨w.heap.size, 1, none⟩ = some (.string b) by simp)
  exact ⟨h1, h2, by rw [h.frozens _ _ (by simp)]; simp, by rw [h.frozens _ _ (by simp)]; simp, World.block_lt_of_cell? W _ h1⟩
theorem pr_put {W : World} {g : Nat} {a b : Value} (h1 : W.cell? ⟨g, 0, none⟩ = some a) (h2 : W.cell? ⟨g, 1, none⟩ = some b) (x y : Value) :
    (W.setCell ⟨g, 0, none⟩ x).cell? ⟨g, 0, none⟩ = some x ∧ ((W.setCell ⟨g, 0, none⟩ x).setCell ⟨g, 1, none⟩ y).cell? ⟨g, 1, none⟩ = some y := by
  refine ⟨World.cell?_setCell_same' _ _ _ (by rw [h1]; rfl), World.cell?_setCell_same' _ _ _ ?_⟩
  rw [World.cell?_setCell_other (h := fun he => by injection he; omega), h2]
  rfl

set_option maxHeartbeats 8000000 in
set_option maxRecDepth 100000 in
theorem first_any (u : ByteArray) (hu : u.size ≤ 700) (R : Option (ByteArray × ByteArray × Nat)) (hR : IsFirst u R) (w : World) (hm : HasMax w) (ht : HasPow w) (hsy : HasSyn w) :
    Calls Tryd.prog 45 #[.string u] w fun e w' => e = .returned (firstR R) ∧ Ext w w' := by
  have hx0 : Ext w (w.alloc (.cells #[.string ⟨#[]⟩, .string ⟨#[]⟩] 84)) := (Ext.refl w).alloc _
  have C1 := Lib.hid (fun w hm => cutSp_any u (by omega) w hm)
  have hT := Lib.hid (fun k v n (h : HasRec u k v n) => rec_tests h)
  have hD6 := numP_size u
  obtain ⟨m, hmm⟩ : ∃ m, m = min u.size 6 := ⟨_, rfl⟩
  have hmi : min (u.size : Int) 6 = (m : Int) := by omega
  have hm6 : m ≤ u.size := by omega
  rw [← hmm] at C1
  have HR := Lib.hid hR
  have HM := Lib.hid (fun n => show midP u n = u.extract ((numP u).size + 1) (n - 1) from rfl)
  generalize hmidE : midP u = mid at *
  clear hmidE
  generalize numP u = D at *
  generalize spP u = ok at *
  clear hmm hR
  cases hat : Lib.atoi D.data.toList with
  | none =>
    have hn : Hid (R = none) := Lib.hid (first_none HR.out fun k v n h => by
      have := (hT.out k v n h).2.1
      rw [hat] at this
      cases this)
    have C2 := Lib.hid (fun w hs => atoiBad_any D (by omega) hat w hs)
    clear hT hat HR HM
    go_enter Tryd.func45, Tryd.ntmps45
    go_wp2_with fail
    refine (C1.out _ (hm.ext hx0)).mono ?_; rintro e w1 ⟨r, rfl, hx1⟩
    go_wp2_with fail
    refine (C2.out _ (hsy.ext (hx0.trans hx1))).mono ?_; rintro e w2 ⟨N, rfl, hx2⟩
    have hE2 := hx1.trans hx2
    obtain ⟨r1, r2, r3, r4, r5⟩ := pr_box hE2
    cases ok
    all_goals
      go_wp2_with fail
      rw [hn.out]
      obtain ⟨s0, s1⟩ := pr_put r1 r2 (.string ⟨#[]⟩) (.string ⟨#[]⟩)
      exact bodyPost_ret (v := .tuple #[.agg #[.string ⟨#[]⟩, .string ⟨#[]⟩], .int .i64 0, .bool false]) (by simp [results, Tryd.results45, go_sem, s0, s1]) rfl ⟨rfl, ((hx0.trans hE2).setCell (Nat.le_refl _) _).setCell (Nat.le_refl _) _⟩
  | some n =>
    have hnb := Lib.atoi_bound hat (by show D.size ≤ 18; omega)
    have C2 := Lib.hid (fun w => atoiOk_any D n (by omega) hat w)
    have Hat := Lib.hid hat
    clear hat
    go_enter Tryd.func45, Tryd.ntmps45
    go_wp2_with fail
    refine (C1.out _ (hm.ext hx0)).mono ?_; rintro e w1 ⟨r, rfl, hx1⟩
    go_wp2_with fail
    refine (C2.out _).mono ?_; rintro e w2 ⟨rfl, hx2⟩
    have hE2 := hx1.trans hx2
    clear hx1 hx2
    by_cases hbad : ok = true ∧ 1 ≤ n ∧ n ≤ (u.size : Int) ∧ (D.size : Int) + 4 ≤ n
    · obtain ⟨rfl, h1, h2, h3⟩ := hbad
      obtain ⟨N1, rfl⟩ : ∃ N1 : Nat, n = (N1 : Int) + 1 := ⟨(n - 1).toNat, by omega⟩
      have hN1 : D.size + 3 ≤ N1 := by omega
      have hN2 : N1 + 1 ≤ u.size := by omega
      have hmid := HM.out (N1 + 1)
      rw [show N1 + 1 - 1 = N1 from rfl] at hmid
      have C3 := Lib.hid (fun w hm => cutEq_any (u.extract (D.size + 1) N1) (by rw [ByteArray.size_extract]; omega) w hm)
      obtain ⟨K, hK⟩ : ∃ K : ByteArray, K = ⟨(Lib.cut (u.extract (D.size + 1) N1).data.toList [61]).1.toArray⟩ := ⟨_, rfl⟩
      obtain ⟨V, hV⟩ : ∃ V : ByteArray, V = ⟨(Lib.cut (u.extract (D.size + 1) N1).data.toList [61]).2.1.toArray⟩ := ⟨_, rfl⟩
      obtain ⟨ok2, hok⟩ : ∃ ok2, ok2 = (Lib.cut (u.extract (D.size + 1) N1).data.toList [61]).2.2 := ⟨_, rfl⟩
      have HK : Hid (∀ k v n, HasRec u k v n → n = N1 + 1 ∧ k = K ∧ v = V ∧ ok2 = true) := Lib.hid (fun k v n h => by
        obtain ⟨t1, t2, t3, t4, t5, t6⟩ := hT.out k v n h
        rw [Hat.out] at t2
        injection t2 with t2
        obtain rfl : n = N1 + 1 := by omega
        rw [hmid] at t6
        rw [hK, hV, hok, t6]
        exact ⟨rfl, rfl, rfl, rfl⟩)
      have hKV : K.size ≤ 700 ∧ V.size ≤ 700 := by
        have hz : (u.extract (D.size + 1) N1).data.toList.length ≤ 700 := by
          have : (u.extract (D.size + 1) N1).size ≤ 700 := by rw [ByteArray.size_extract]; omega
          exact this
        rw [b_size K, b_size V, hK, hV]
        rcases cut_at (u.extract (D.size + 1) N1).data.toList 61 with h | ⟨a, b, h0, h⟩
        · rw [cut_none h]; exact ⟨hz, Nat.zero_le _⟩
        · rw [h0, cut_app h]
          rw [h0, List.length_append, List.length_cons] at hz
          exact ⟨by show a.length ≤ _; omega, by show b.length ≤ _; omega⟩
      obtain ⟨hKs, hVs⟩ := hKV
      rw [← hK, ← hV, ← hok] at C3
      clear hK hV hok hmid HM hT Hat
      have CR := Lib.hid (fun w => paxRight_any K V (by omega) (by omega) (by omega) w)
      have CT := Lib.hid (fun (h : pairB K V = true) w ht => paxText_any K V (by have := pairB_len h; omega) w ht)
      have hn1 : ¬ (N1 : Int) + 1 < 1 := by omega
      have hn2 : ¬ (u.size : Int) < (N1 : Int) + 1 := by omega
      have hn3 : ¬ (N1 : Int) + 1 < (D.size : Int) + 4 := by omega
      clear h1 h2 h3 hnb
      go_wp2_with fail
      refine (C3.out _ (hm.ext (hx0.trans hE2))).mono ?_; rintro e w3 ⟨rfl, hx3⟩
      have hE3 := hE2.trans hx3
      clear hE2 hx3 C1 C2 C3
      go_upto_region 7 with fail
      have g0 : (w3.alloc (.cells #[.string K, .string V] 84)).cell? ⟨w3.heap.size, 0, none⟩ = some (.string K) := by simp
      have g1 : (w3.alloc (.cells #[.string K, .string V] 84)).cell? ⟨w3.heap.size, 1, none⟩ = some (.string V) := by simp
      have g2 : w3.heap.size < (w3.alloc (.cells #[.string K, .string V] 84)).heap.size := by simp
      have hE4 : Ext (w.alloc (.cells #[.string ⟨#[]⟩, .string ⟨#[]⟩] 84)) (w3.alloc (.cells #[.string K, .string V] 84)) := hE3.alloc _
      have hz3 := hE3.size
      generalize w3.alloc (.cells #[.string K, .string V] 84) = W4 at *
      go_cut [81] (fun g wx => g = .bool (!(ok2 && (pairB K V && ((recB K V).toList == (u.extract 0 (N1 + 1)).toList)))) ∧ wx.cell? ⟨w3.heap.size, 0, none⟩ = some (.string K) ∧ wx.cell? ⟨w3.heap.size, 1, none⟩ = some (.string V) ∧ w3.heap.size < wx.heap.size ∧ Ext (w.alloc (.cells #[.string ⟨#[]⟩, .string ⟨#[]⟩] 84)) wx)
      case first =>
        cases ok2 with
        | false =>
          as_aux_lemma =>
            go_wp2_with fail
            refine wp_region_det (Stood _) (by kernel_rfl) (by kernel_rfl) (Stood.start _) ?_
            repeat (first
              | (refine det_skip (by rfl) ?_; simp only [Act.put, List.setIfInBounds_toArray, List.set_cons_zero, List.set_cons_succ])
              | (refine det_op (v := ?_) rfl (by rfl) (fun w' hS => ?_) ?_; rotate_left; (focus (obtain ⟨hcl, hxt⟩ := hS; go_wp2_with (first | ((with_reducible refine (CR.out _).mono ?_); rintro e w1 ⟨rfl, hx1⟩)); (first | refine ⟨?_, rfl, hcl, hxt⟩ | refine ⟨?_, rfl, Stood.of (hxt.trans (by assumption))⟩); (first | (simp only [List.getElem?_toArray, List.getElem?_cons_succ, List.getElem?_cons_zero]; rfl) | rfl))); simp only [Act.put, List.setIfInBounds_toArray, List.set_cons_zero, List.set_cons_succ]))
            refine det_end ?_
            intro w5 hS
            have hx5 := hS.2
            clear hS
            go_wp2_with fail
            go_meet
            exact ⟨rfl, hx5.cell g0, hx5.cell g1, Nat.lt_of_lt_of_le g2 hx5.size, hE4.trans hx5⟩
        | true =>
          cases hp : pairB K V with
          | false =>
            as_aux_lemma =>
              rw [hp] at CR
              have Hp := Lib.hid hp
              clear hp
              go_wp2_with fail
              refine wp_region_det (Stood _) (by kernel_rfl) (by kernel_rfl) (Stood.start _) ?_
              repeat (first
                | (refine det_skip (by rfl) ?_; simp only [Act.put, List.setIfInBounds_toArray, List.set_cons_zero, List.set_cons_succ])
                | (refine det_op (v := ?_) rfl (by rfl) (fun w' hS => ?_) ?_; rotate_left; (focus (obtain ⟨hcl, hxt⟩ := hS; go_wp2_with (first | ((with_reducible refine (CR.out _).mono ?_); rintro e w1 ⟨rfl, hx1⟩)); (first | refine ⟨?_, rfl, hcl, hxt⟩ | refine ⟨?_, rfl, Stood.of (hxt.trans (by assumption))⟩); (first | (simp only [List.getElem?_toArray, List.getElem?_cons_succ, List.getElem?_cons_zero]; rfl) | rfl))); simp only [Act.put, List.setIfInBounds_toArray, List.set_cons_zero, List.set_cons_succ]))
              refine det_end ?_
              intro w5 hS
              have hx5 := hS.2
              clear hS
              go_wp2_with fail
              go_meet
              exact ⟨by rw [Hp.out]; rfl, hx5.cell g0, hx5.cell g1, Nat.lt_of_lt_of_le g2 hx5.size, hE4.trans hx5⟩
          | true =>
            as_aux_lemma =>
              have CT2 := Lib.hid (CT.out hp)
              rw [hp] at CR
              have Hp := Lib.hid hp
              clear hp CT
              generalize recB K V = tx at *
              go_wp2_with fail
              refine wp_region_det (Stood _) (by kernel_rfl) (by kernel_rfl) (Stood.start _) ?_
              repeat (first
                | (refine det_skip (by rfl) ?_; simp only [Act.put, List.setIfInBounds_toArray, List.set_cons_zero, List.set_cons_succ])
                | (refine det_op (v := ?_) rfl (by rfl) (fun w' hS => ?_) ?_; rotate_left; (focus (obtain ⟨hcl, hxt⟩ := hS; go_wp2_with (first | ((with_reducible refine (CR.out _).mono ?_); rintro e w1 ⟨rfl, hx1⟩) | ((with_reducible refine (CT2.out _ (ht.ext (hx0.trans (hE4.trans hxt)))).mono ?_); rintro e w1 ⟨rfl, hx1⟩)); (first | refine ⟨?_, rfl, hcl, hxt⟩ | refine ⟨?_, rfl, Stood.of (hxt.trans (by assumption))⟩); (first | (simp only [List.getElem?_toArray, List.getElem?_cons_succ, List.getElem?_cons_zero]; rfl) | rfl))); simp only [Act.put, List.setIfInBounds_toArray, List.set_cons_zero, List.set_cons_succ]))
              refine det_end ?_
              intro w5 hS
              have hx5 := hS.2
              clear hS
              go_wp2_with fail
              go_meet
              exact ⟨by rw [Hp.out]; simp, hx5.cell g0, hx5.cell g1, Nat.lt_of_lt_of_le g2 hx5.size, hE4.trans hx5⟩
      case rest =>
        obtain ⟨rfl, k0, k1, k2, hE5⟩ := hcut
        clear g0 g1 g2 hE4 hE3 CR CT
        obtain ⟨r1, r2, r3, r4, r5⟩ := pr_box hE5
        cases hb : ok2 && (pairB K V && ((recB K V).toList == (u.extract 0 (N1 + 1)).toList)) with
        | false =>
          as_aux_lemma =>
            have hn : Hid (R = none) := Lib.hid (first_none HR.out fun k v n h => by
              obtain ⟨rfl, rfl, rfl, rfl⟩ := HK.out k v n h
              rw [h.1, h.2.2, beq_self_eq_true] at hb
              cases hb)
            clear hb
            go_wp2_with fail
            rw [hn.out]
            obtain ⟨s0, s1⟩ := pr_put r1 r2 (.string ⟨#[]⟩) (.string ⟨#[]⟩)
            exact bodyPost_ret (v := .tuple #[.agg #[.string ⟨#[]⟩, .string ⟨#[]⟩], .int .i64 0, .bool false]) (by simp [results, Tryd.results45, go_sem, s0, s1]) rfl ⟨rfl, ((hx0.trans hE5).setCell (Nat.le_refl _) _).setCell (Nat.le_refl _) _⟩
        | true =>
          as_aux_lemma =>
            have hn : Hid (R = some (K, V, N1 + 1)) := Lib.hid (first_some HR.out (by
              rw [Bool.and_eq_true, Bool.and_eq_true, beq_iff_eq, ByteArray.toList_eq, ByteArray.toList_eq] at hb
              exact ⟨hb.2.1, hN2, (b_eq hb.2.2).symm⟩))
            clear hb
            have hne : w.heap.size ≠ w3.heap.size := by rw [World.size_alloc] at hz3; omega
            go_wp2_with fail
            rw [hn.out]
            obtain ⟨s0, s1⟩ := pr_put r1 r2 (.string K) (.string V)
            exact bodyPost_ret (v := .tuple #[.agg #[.string K, .string V], .int .i64 ((N1 : Int) + 1), .bool true]) (by simp [results, Tryd.results45, go_sem, s0, s1]) rfl ⟨rfl, ((hx0.trans hE5).setCell (Nat.le_refl _) _).setCell (Nat.le_refl _) _⟩
    · have hn : Hid (R = none) := Lib.hid (first_none HR.out fun k v n' h => by
        obtain ⟨t1, t2, t3, t4, t5, _⟩ := hT.out k v n' h
        rw [Hat.out] at t2
        injection t2 with t2
        exact hbad ⟨t1, by omega, by omega, by omega⟩)
      have hw : ok = false ∨ (ok = true ∧ n < 1) ∨ (ok = true ∧ ¬ n < 1 ∧ (u.size : Int) < n) ∨ (ok = true ∧ ¬ n < 1 ∧ ¬ (u.size : Int) < n ∧ n < (D.size : Int) + 4) := by
        cases ok with
        | false => exact .inl rfl
        | true =>
          by_cases h1 : n < 1
          · exact .inr (.inl ⟨rfl, h1⟩)
          · by_cases h2 : (u.size : Int) < n
            · exact .inr (.inr (.inl ⟨rfl, h1, h2⟩))
            · exact .inr (.inr (.inr ⟨rfl, h1, h2, by
                by_cases h3 : n < (D.size : Int) + 4
                · exact h3
                · exact absurd ⟨rfl, by omega, by omega, by omega⟩ hbad⟩))
      obtain ⟨r1, r2, r3, r4, r5⟩ := pr_box hE2
      clear hbad hT HR HM Hat
      go_upto_region 3 with fail
      go_cut [50] (fun g wx => g = .bool true ∧ wx = w2)
      case first =>
        rcases hw with rfl | ⟨rfl, h1⟩ | ⟨rfl, h1, h2⟩ | ⟨rfl, h1, h2, h3⟩
        all_goals
          go_wp2_with fail
          all_goals
            go_meet
            exact ⟨rfl, rfl⟩
      case rest =>
        obtain ⟨rfl, hw9⟩ := hcut
        rw [hw9]
        clear hw9 hw hmi hnb hm6 hD6 hu
        go_wp2_with fail
        rw [hn.out]
        obtain ⟨s0, s1⟩ := pr_put r1 r2 (.string ⟨#[]⟩) (.string ⟨#[]⟩)
        exact bodyPost_ret (v := .tuple #[.agg #[.string ⟨#[]⟩, .string ⟨#[]⟩], .int .i64 0, .bool false]) (by simp [results, Tryd.results45, go_sem, s0, s1]) rfl ⟨rfl, ((hx0.trans hE2).setCell (Nat.le_refl _) _).setCell (Nat.le_refl _) _⟩
end Go.Proofs.YtbofobakphlpbaaDoor
