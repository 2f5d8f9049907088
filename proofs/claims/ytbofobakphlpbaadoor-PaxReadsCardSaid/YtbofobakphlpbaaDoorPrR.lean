/-
  The reference's RecordsRead: its walk. No conditions but the text's length.
-/
import Derived.Test.YtbofobakphlpbaaDoorPrW
import Derived.Deep.RegionLaw
namespace Go.Proofs.YtbofobakphlpbaaDoor
open Go.RowKit Go.WideShapes Go.PlainAid

theorem ext_at {s : ByteArray} {a : Nat} (x y : Nat) (h : a + y ≤ s.size) : (s.extract a s.size).extract x y = s.extract (a + x) (a + y) := by
  rw [ByteArray.extract_extract, Nat.min_eq_left h]
theorem rec_at {s k x : ByteArray} {a m : Nat} (ha : a + m + 1 ≤ s.size) (h : HasRec (s.extract a s.size) k x (m + 1)) : bt s (a + m) = 10 ∧ ∃ i j : Nat, Lib.indexByte (s.extract a (a + m + 1)).data.toList 32 = (i : Int) ∧
    Lib.indexByte (s.extract a (a + m + 1)).data.toList 61 = (j : Int) ∧ i < j ∧ j + 1 < m + 1 ∧ s.extract (a + i + 1) (a + j) = k ∧ s.extract (a + j + 1) (a + m) = x ∧ pairB k x = true ∧ recB k x = s.extract a (a + m + 1) := by
  have e0 := ext_at (s := s) (a := a) 0 (m + 1) (by omega)
  rw [Nat.add_zero] at e0
  have h8 := h.2.2
  have h9 := h.1
  have h10 := rec_ref h
  rw [e0] at h8 h10
  obtain ⟨i, j, h1, h2, h3, h4, h5, h6, h7⟩ := h10
  have e1 := ext_at (s := s) (a := a) (i + 1) j (by omega)
  have e2 := ext_at (s := s) (a := a) (j + 1) m (by omega)
  rw [e1] at h6
  rw [show m + 1 - 1 = m from rfl, e2] at h7
  refine ⟨?_, i, j, h1, h2, h3, h4, h6, h7, h9, h8.symm⟩
  have h11 : s.data.toList[a + m]? = some 10 := by
    rw [b_drop, List.getElem?_drop] at h5
    exact h5
  rw [(b_some h11).2]
  rfl
theorem rec_mk {s k x : ByteArray} {a m : Nat} (ha : a + m + 1 ≤ s.size) (h1 : pairB k x = true) (h2 : recB k x = s.extract a (a + m + 1)) : HasRec (s.extract a s.size) k x (m + 1) := by
  refine ⟨h1, ?_, ?_⟩
  · rw [ByteArray.size_extract]; omega
  · rw [h2, ext_at 0 (m + 1) (by omega)]
    rfl
/-- The two places, where there is a space and a sign of equality behind it. -/
theorem two_places {T : ByteArray} {m : Nat} (hz : T.size = m + 1) (h10 : T.data.toList[m]? = some 10) {I J : Int} (hI : Lib.indexByte T.data.toList 32 = I) (hJ : Lib.indexByte T.data.toList 61 = J) (h0 : ¬ I < 0) (h1 : ¬ J < I) :
    ∃ i j : Nat, I = (i : Int) ∧ J = (j : Int) ∧ i < j ∧ j + 1 < m + 1 := by
  obtain ⟨i, rfl⟩ := Int.eq_ofNat_of_zero_le (show 0 ≤ I by omega)
  obtain ⟨j, rfl⟩ := Int.eq_ofNat_of_zero_le (show 0 ≤ J by omega)
  obtain ⟨a1, _⟩ := Lib.indexByte_some hI
  obtain ⟨a2, _⟩ := Lib.indexByte_some hJ
  have hj : j < T.data.toList.length := (List.getElem?_eq_some_iff.1 a2).1
  rw [← b_size, hz] at hj
  refine ⟨i, j, rfl, rfl, ?_, ?_⟩
  · rcases Nat.lt_or_ge i j with h | h
    · exact h
    · obtain rfl : i = j := by omega
      rw [a1] at a2
      exact absurd a2 (by decide)
  · rcases Nat.lt_or_ge (j + 1) (m + 1) with h | h
    · exact h
    · obtain rfl : j = m := by omega
      rw [a2] at h10
      exact absurd h10 (by decide)
theorem fault_box {w W : World} {a b : Int} {t : TypeId} (h : Ext (w.alloc (.cells #[.int .i64 a, .int .i64 b] t)) W) :
    W.cell? ⟨w.heap.size, 0, none⟩ = some (.int .i64 a) ∧ W.cell? ⟨w.heap.size, 1, none⟩ = some (.int .i64 b) ∧ W.frozen? ⟨w.heap.size, 0, none⟩ = false ∧ W.frozen? ⟨w.heap.size, 1, none⟩ = false ∧ w.heap.size < W.heap.size := by
  have h1 := h.cell (show (w.alloc (.cells #[.int .i64 a, .int .i64 b] t)).cell? ⟨w.heap.size, 0, none⟩ = some (.int .i64 a) by simp)
  have h2 := h.cell (show (w.alloc (.cells #[.int .i64 a, .int .i64 b] t)).cell? ⟨w.heap.size, 1, none⟩ = some (.int .i64 b) by simp)
  exact ⟨h1, h2, by rw [h.frozens _ _ (by simp)]; simp, by rw [h.frozens _ _ (by simp)]; simp, World.block_lt_of_cell? W _ h1⟩
theorem prs_kept {W : World} {base : Nat} {v : Value} {l : List (ByteArray × ByteArray)} (h : W.ownsRow base 84 2 v l.length (cellsB l)) {g : Nat} (hg : g < base) (x y : Value) :
    IsPrs ((W.setCell ⟨g, 0, none⟩ x).setCell ⟨g, 1, none⟩ y) v l :=
  IsPrs.ofOwns (ownsRow_setCell_below (ownsRow_setCell_below h hg x) hg y)
/-- Pairs and a fault come back. -/
def GivesPrsR (V : List (ByteArray × ByteArray) × Int × Int) (w : World) (e : Ending) (w' : World) : Prop := ∃ v, e = .returned (.tuple #[v, .agg #[.int .i64 V.2.1, .int .i64 V.2.2]]) ∧ IsPrs w' v V.1 ∧ Ext w w'

set_option maxHeartbeats 8000000 in
set_option maxRecDepth 100000 in
theorem recordsRead_any (rc : ByteArray → Option (ByteArray × ByteArray × Nat)) (hrc : ∀ u, IsFirst u (rc u)) (s : ByteArray) (hs : s.size ≤ 600) (w : World) (ht : HasPow w) :
    Calls Tryd.prog 16 #[.string s] w (GivesPrsR (readV rc s (s.size + 1) 0 []) w) := by
  obtain ⟨i0, hi, hz0, hz1, hz2⟩ := info_parts infoPair
  obtain ⟨RV, hRV⟩ : ∃ RV, RV = readV rc s (s.size + 1) 0 [] := ⟨_, rfl⟩
  rw [← hRV]
  have HRV := Lib.hid hRV.symm
  have Hrc := Lib.hid hrc
  have CG := Lib.hid (fun w => goodF_any w)
  have hw0 : Ext w (w.alloc (.cells #[.int .i64 0, .int .i64 0] 46)) := (Ext.refl w).alloc _
  have hbS := get_bt s
  clear hRV hrc
  go_enter Tryd.func16, Tryd.ntmps16
  go_wp2_with fail
  go_loopw [4, 5] (fun v i wr => ∃ (f a : Nat) (l : List (ByteArray × ByteArray)), a ≤ s.size ∧ s.size + 1 ≤ a + f ∧ i = .int .i64 (a : Int) ∧ l.length ≤ 20 ∧ Hid (readV rc s f a l = RV) ∧ wr.ownsRow (w.heap.size + 1) 84 2 v l.length (cellsB l) ∧ Ext (w.alloc (.cells #[.int .i64 0, .int .i64 0] 46)) wr) (fun _ i _ => s.size - (intOf i).toNat)
  case atStart => exact ⟨s.size + 1, 0, [], Nat.zero_le _, by omega, rfl, Nat.zero_le _, HRV, World.ownsRow_nil _ _ _ _, Ext.refl _⟩
  case round =>
    obtain ⟨f, a, l, ha, hf, rfl, hl, hV, hown, hE⟩ := hrel
    by_cases hlt : a < s.size
    · obtain ⟨f, rfl⟩ : ∃ f', f = f' + 1 := ⟨f - 1, by omega⟩
      have hus : Hid ((s.extract a s.size).size = s.size - a) := Lib.hid (by rw [ByteArray.size_extract]; omega)
      have hF := Lib.hid (Hrc.out (s.extract a s.size))
      have HV := Lib.hid (fun k x n (hr : rc (s.extract a s.size) = some (k, x, n)) => readV_some (f := f) (l := l) (show ¬ s.size ≤ a by omega) hr)
      have HN := Lib.hid (fun (hr : rc (s.extract a s.size) = none) => readV_none (f := f) (l := l) (show ¬ s.size ≤ a by omega) hr)
      rw [hV.out] at HV HN
      clear hV HRV Hrc
      go_wp2_with fail
      go_loopw [4, 5, 6, 7] (fun v i fd e wq => ((∃ m : Nat, a + m ≤ s.size ∧ i = .int .i64 (a : Int) ∧ fd = .bool false ∧ e = .int .i64 (((a + m : Nat) : Int) + 1) ∧ Hid (∀ k x n, HasRec (s.extract a s.size) k x n → m + 1 ≤ n) ∧ wq.ownsRow (w.heap.size + 1) 84 2 v l.length (cellsB l)) ∨
        (∃ (k x : ByteArray) (m : Nat), Hid (rc (s.extract a s.size) = some (k, x, m + 1)) ∧ l.length < 20 ∧ a + m + 1 ≤ s.size ∧ i = .int .i64 (((a + m : Nat) : Int) + 1) ∧ fd = .bool true ∧ e = .int .i64 (((a + m : Nat) : Int) + 1 + 1) ∧ wq.ownsRow (w.heap.size + 1) 84 2 v (l ++ [(k, x)]).length (cellsB (l ++ [(k, x)])))) ∧ Ext (w.alloc (.cells #[.int .i64 0, .int .i64 0] 46)) wq)
        (fun _ _ fd e _ => match fd with | .bool true => 0 | _ => s.size + 2 - (intOf e).toNat)
      case atStart =>
        refine ⟨.inl ⟨0, by omega, rfl, rfl, by go_num, Lib.hid (fun k x n h => ?_), hown⟩, hE⟩
        have := (rec_parts h).2.2.2.1
        omega
      case round =>
        obtain ⟨⟨m, hm1, rfl, rfl, rfl, hno, hown⟩ | ⟨k, x, m, hr, hl20, hm1, rfl, rfl, rfl, hown⟩, hE⟩ := hrel
        · by_cases hle : a + m + 1 ≤ s.size
          · obtain ⟨p, hp⟩ : ∃ p, p = a + m := ⟨_, rfl⟩
            rw [← hp] at hle
            rw [← hp]
            have hap : a ≤ p := by omega
            have Hat : Hid (∀ k x, HasRec (s.extract a s.size) k x (m + 1) → bt s p = 10 ∧ ∃ i j : Nat, Lib.indexByte (s.extract a (p + 1)).data.toList 32 = (i : Int) ∧
                Lib.indexByte (s.extract a (p + 1)).data.toList 61 = (j : Int) ∧ i < j ∧ j + 1 < m + 1 ∧ s.extract (a + i + 1) (a + j) = k ∧ s.extract (a + j + 1) p = x ∧ pairB k x = true ∧ recB k x = s.extract a (p + 1)) := Lib.hid (fun k x h => by
              have := rec_at (by omega) h
              rw [← hp] at this
              exact this)
            have Hmk : Hid (∀ k x, pairB k x = true → recB k x = s.extract a (p + 1) → HasRec (s.extract a s.size) k x (m + 1)) := Lib.hid (fun k x h1 h2 => rec_mk (by omega) h1 (by rw [← hp]; exact h2))
            have hstep : Hid ((∀ k x, ¬ HasRec (s.extract a s.size) k x (m + 1)) → ∀ k x n, HasRec (s.extract a s.size) k x n → m + 1 + 1 ≤ n) := Lib.hid (fun hz k x n h => by
              have h1 := hno.out k x n h
              rcases Nat.lt_or_ge (m + 1) n with h2 | h2
              · exact h2
              · obtain rfl : n = m + 1 := by omega
                exact absurd h (hz k x))
            have hTz : (s.extract a (p + 1)).size = m + 1 := by rw [ByteArray.size_extract]; omega
            have hT10 : bt s p = 10 → (s.extract a (p + 1)).data.toList[m]? = some 10 := fun h => by
              obtain ⟨c, c1, c2, _⟩ := b_at (show p < s.size by omega)
              rw [b_ext, List.getElem?_take, if_pos (by omega), List.getElem?_drop, ← hp, c1]
              congr 1
              exact UInt8.toNat_inj.1 (by rw [c2] at h; show c.toNat = 10; omega)
            have Hp := Lib.hid hp
            have HTz := Lib.hid hTz
            have HT10 := Lib.hid hT10
            have hcl : (p : Int) + 1 ≤ (s.size : Int) := by omega
            clear hp hTz hT10 hno
            cases hq : (bt s p == 10) with
            | false =>
              as_aux_lemma =>
                have hno2 := Lib.hid (hstep.out fun k x h => by
                  have := (Hat.out k x h).1
                  rw [this] at hq
                  cases hq)
                clear Hat Hmk hstep HV HN hF hus
                go_wp2_with fail
                go_roundw
                case rel => exact ⟨.inl ⟨m + 1, by have := Hp.out; omega, rfl, rfl, by have := Hp.out; congr 1; omega, hno2, hown⟩, hE⟩
                case measure => have := Hp.out; simp [intOf]; omega
            | true =>
              have h10 := HT10.out (by simpa using hq)
              obtain ⟨I, hI⟩ : ∃ I, Lib.indexByte (s.extract a (p + 1)).data.toList 32 = I := ⟨_, rfl⟩
              obtain ⟨J, hJ⟩ : ∃ J, Lib.indexByte (s.extract a (p + 1)).data.toList 61 = J := ⟨_, rfl⟩
              have CI := Lib.hid (fun w => idxByte_e (s.extract a (p + 1)) 32 I hI w)
              have CJ := Lib.hid (fun w => idxByte_e (s.extract a (p + 1)) 61 J hJ w)
              by_cases h01 : I < 0 ∨ J < I
              · have hno2 := Lib.hid (hstep.out fun k x h => by
                  obtain ⟨_, i, j, t1, t2, t3, _⟩ := Hat.out k x h
                  rw [hI] at t1
                  rw [hJ] at t2
                  omega)
                have h02 : I < 0 ∨ (¬ I < 0 ∧ J < I) := by omega
                clear Hat Hmk hstep HV HN hF hus hI hJ h10 h01
                rcases h02 with h0 | ⟨h0, h1⟩
                all_goals
                  as_aux_lemma =>
                    go_wp2_with fail
                    refine (CI.out _).mono ?_; rintro e w9 ⟨rfl, hw9⟩
                    rw [hw9]; clear hw9 w9
                    go_wp2_with fail
                    refine (CJ.out _).mono ?_; rintro e w9 ⟨rfl, hw9⟩
                    rw [hw9]; clear hw9 w9
                    go_wp2_with fail
                    go_roundw
                    case rel => exact ⟨.inl ⟨m + 1, by have := Hp.out; omega, rfl, rfl, by have := Hp.out; congr 1; omega, hno2, hown⟩, hE⟩
                    case measure => have := Hp.out; simp [intOf]; omega
              · obtain ⟨i, j, rfl, rfl, hij, hjm⟩ := two_places HTz.out h10 hI hJ (by omega) (by omega)
                obtain ⟨x1, hx1⟩ : ∃ x1, x1 = a + i := ⟨_, rfl⟩
                obtain ⟨y1, hy1⟩ : ∃ y1, y1 = a + j := ⟨_, rfl⟩
                have e1 : (a : Int) + (i : Int) = (x1 : Int) := by omega
                have e2 : (a : Int) + (j : Int) = (y1 : Int) := by omega
                have hxy : x1 + 1 ≤ y1 := by omega
                have hyp : y1 + 1 ≤ p := by have := Hp.out; omega
                have HK : Hid (∀ k x, HasRec (s.extract a s.size) k x (m + 1) → k = s.extract (x1 + 1) y1 ∧ x = s.extract (y1 + 1) p) := Lib.hid (fun k x h => by
                  obtain ⟨_, i', j', t1, t2, _, _, t5, t6, _⟩ := Hat.out k x h
                  rw [hI] at t1
                  rw [hJ] at t2
                  obtain rfl : i = i' := by omega
                  obtain rfl : j = j' := by omega
                  rw [← hx1] at t5
                  rw [← hy1] at t5 t6
                  exact ⟨t5.symm, t6.symm⟩)
                have hn0 : ¬ (i : Int) < 0 := by omega
                have hn1 : ¬ (j : Int) < (i : Int) := by omega
                have hKs : (s.extract (x1 + 1) y1).size + (s.extract (y1 + 1) p).size ≤ 700 := by rw [ByteArray.size_extract, ByteArray.size_extract]; omega
                clear hx1 hy1 hI hJ h10 h01
                go_wp2_with fail
                refine (CI.out _).mono ?_; rintro e w9 ⟨rfl, hw9⟩
                rw [hw9]; clear hw9 w9
                go_wp2_with fail
                refine (CJ.out _).mono ?_; rintro e w9 ⟨rfl, hw9⟩
                rw [hw9]; clear hw9 w9
                go_upto_region 12 with fail
                go_region
                have hxr : Ext wr ((wr.alloc (.cells #[.string (s.extract (x1 + 1) y1), .string (s.extract (y1 + 1) p)] 84)).drew) := ((Ext.refl wr).alloc _).drew
                have g0 : ((wr.alloc (.cells #[.string (s.extract (x1 + 1) y1), .string (s.extract (y1 + 1) p)] 84)).drew).cell? ⟨wr.heap.size, 0, none⟩ = some (.string (s.extract (x1 + 1) y1)) := by
                  show (wr.alloc _).cell? _ = _
                  simp
                have g1 : ((wr.alloc (.cells #[.string (s.extract (x1 + 1) y1), .string (s.extract (y1 + 1) p)] 84)).drew).cell? ⟨wr.heap.size, 1, none⟩ = some (.string (s.extract (y1 + 1) p)) := by
                  show (wr.alloc _).cell? _ = _
                  simp
                generalize (wr.alloc (.cells #[.string (s.extract (x1 + 1) y1), .string (s.extract (y1 + 1) p)] 84)).drew = W5 at *
                generalize s.extract (x1 + 1) y1 = K at *
                generalize s.extract (y1 + 1) p = X at *
                have g2 : wr.heap.size < W5.heap.size := World.block_lt_of_cell? W5 _ g0
                have hE5 := hE.trans hxr
                have hown5 := ownP_ext hown hxr
                have CR := Lib.hid (fun w ht => refRecord_any K X (by omega) w ht)
                clear hown hxr hE CI CJ e1 e2
                cases hpr : pairB K X && ((recB K X).toList == (s.extract a (p + 1)).toList) with
                | false =>
                  have hno2 := Lib.hid (hstep.out fun k x h => by
                    obtain ⟨rfl, rfl⟩ := HK.out k x h
                    obtain ⟨_, _, _, _, _, _, _, _, _, t7, t8⟩ := Hat.out k x h
                    rw [t7, t8, beq_self_eq_true] at hpr
                    cases hpr)
                  have her : (recV K X = ⟨#[]⟩ ∧ recE K X = 1) ∨ (recV K X = recB K X ∧ recE K X = 0 ∧ ((recB K X).toList == (s.extract a (p + 1)).toList) = false) := by
                    unfold recV recE
                    cases hpk : pairB K X with
                    | false => exact .inl ⟨rfl, rfl⟩
                    | true => rw [hpk, Bool.true_and] at hpr; exact .inr ⟨rfl, rfl, hpr⟩
                  clear hpr Hat Hmk hstep HV HN hF hus HK
                  rcases her with ⟨t1, t2⟩ | ⟨t1, t2, t3⟩
                  all_goals
                    as_aux_lemma =>
                      rw [t1, t2] at CR
                      clear t1 t2
                      try generalize recB K X = tx at *
                      go_wp2_with fail
                      refine (CR.out _ (ht.ext (hw0.trans hE5))).mono ?_; rintro e w6 ⟨rfl, hx6⟩
                      go_wp2_with fail
                      go_roundw
                      case rel => exact ⟨.inl ⟨m + 1, by have := Hp.out; omega, rfl, rfl, by have := Hp.out; congr 1; omega, hno2, ownP_ext hown5 hx6⟩, hE5.trans hx6⟩
                      case measure => have := Hp.out; simp [intOf]; omega
                | true =>
                  rw [Bool.and_eq_true] at hpr
                  have hrec : HasRec (s.extract a s.size) K X (m + 1) := Hmk.out K X hpr.1 (by
                    have := hpr.2
                    rw [beq_iff_eq, ByteArray.toList_eq, ByteArray.toList_eq] at this
                    exact b_eq this)
                  have hrs := Lib.hid (first_some hF.out hrec)
                  have her : recV K X = recB K X ∧ recE K X = 0 := by unfold recV recE; rw [hpr.1]; exact ⟨rfl, rfl⟩
                  have q8 := hpr.2
                  rw [her.1, her.2] at CR
                  clear her hpr Hat Hmk hstep HN hus HK hrec hF
                  generalize recB K X = tx at *
                  obtain ⟨oa, cap, rfl⟩ := ownP_open hown5
                  have Hown5 := Lib.hid hown5
                  clear hown5
                  go_wp2_with fail
                  refine (CR.out _ (ht.ext (hw0.trans hE5))).mono ?_; rintro e w6 ⟨rfl, hx6⟩
                  have hE6 := hE5.trans hx6
                  have k0 := hx6.cell g0
                  have k1 := hx6.cell g1
                  have k2 : wr.heap.size < w6.heap.size := World.block_lt_of_cell? w6 _ k0
                  have hown6 := ownP_ext Hown5.out hx6
                  have Hown6 := Lib.hid hown6
                  clear g0 g1 g2 hE5 hx6 hown6 CR Hown5
                  by_cases h20 : l.length = 20
                  · as_aux_lemma =>
                      have hn : Hid (RV = ([], 4, (a : Int))) := Lib.hid (by rw [HV.out _ _ _ hrs.out, if_pos h20])
                      have q : ((l.length : Int) == 20) = true := by rw [beq_iff_eq]; omega
                      obtain ⟨r1, r2, r3, r4, r5⟩ := fault_box hE6
                      clear h20 HV
                      go_wp2_with fail
                      rw [hn.out]
                      obtain ⟨s0, s1⟩ := pr_put r1 r2 (.int .i64 4) (.int .i64 (a : Int))
                      exact bodyPost_ret (v := .tuple #[.slice none 0 0, .agg #[.int .i64 4, .int .i64 (a : Int)]]) (by simp [results, Tryd.results16, go_sem, s0, s1]) rfl ⟨_, rfl, .inl ⟨⟨_, _, rfl⟩, rfl⟩, ((hw0.trans hE6).setCell (Nat.le_refl _) _).setCell (Nat.le_refl _) _⟩
                  · as_aux_lemma =>
                      have q : ((l.length : Int) == 20) = false := by rw [beq_eq_false_iff_ne]; omega
                      have hl2 : l.length < 20 := by omega
                      have hzs := hE6.size
                      rw [World.size_alloc] at hzs
                      have hown6 := Hown6.out
                      clear HV h20 Hown6
                      go_wp2_with (at_builtin; refine wpList_append_own _ rfl _ _ 44 rfl (w.heap.size + 1) 84 i0 (.agg #[.string ByteArray.empty, .string ByteArray.empty]) 2 32 Tryd.underlying44 hi hz0 hz1 hz2 rfl (by decide) _ _ _ rfl (hown6.alloc _) ⟨w6.heap.size, 0, none⟩ 1 1 [.string K, .string X] rfl rfl ?c1 ?c2 ?c3 ?c4 ?c5 ?_)
                      case c1 =>
                        intro j u hj
                        match j, hj with
                        | 0, hj => simp at hj; subst hj; simp [Addr.add]
                        | 1, hj => simp at hj; subst hj; simp [Addr.add]
                      case c2 => intro u hu; simp at hu; rcases hu with rfl | rfl <;> rfl
                      case c3 => unfold maxLen; omega
                      case c4 => omega
                      case c5 => simp; omega
                      intro v' w7 hown7 hgrow _
                      have hE7 : Ext (w.alloc (.cells #[.int .i64 0, .int .i64 0] 46)) w7 := (hE6.alloc _).ofGrown hgrow (fun j hj => by rw [World.size_alloc]; exact ownP_ge hown6 (Nat.le_refl _) j hj)
                      have Hn : Hid (w7.ownsRow (w.heap.size + 1) 84 2 v' (l ++ [(K, X)]).length (cellsB (l ++ [(K, X)]))) := Lib.hid (by rw [cellsB_append, List.length_append]; exact hown7)
                      clear hown6 hown7 hgrow
                      go_wp2_with fail
                      go_roundw
                      case rel => exact ⟨.inr ⟨K, X, m, hrs, hl2, by have := Hp.out; omega, by have := Hp.out; congr 1; omega, rfl, by have := Hp.out; congr 1; omega, Hn.out⟩, hE7⟩
                      case measure => simp [intOf]; omega
          · obtain rfl : m = s.size - a := by omega
            as_aux_lemma =>
              have hn : Hid (RV = ([], 3, (a : Int))) := Lib.hid (by
                refine HN.out (first_none hF.out fun k x n h => ?_)
                have h1 := hno.out k x n h
                have h2 := h.2.1
                rw [hus.out] at h2
                omega)
              have hc : ¬ ((a + (s.size - a) : Nat) : Int) + 1 ≤ (s.size : Int) := by omega
              obtain ⟨r1, r2, r3, r4, r5⟩ := fault_box hE
              clear hno hown HV HN hF hus hle hf
              go_wp2_with fail
              rw [hn.out]
              obtain ⟨s0, s1⟩ := pr_put r1 r2 (.int .i64 3) (.int .i64 (a : Int))
              exact bodyPost_ret (v := .tuple #[.slice none 0 0, .agg #[.int .i64 3, .int .i64 (a : Int)]]) (by simp [results, Tryd.results16, go_sem, s0, s1]) rfl ⟨_, rfl, .inl ⟨⟨_, _, rfl⟩, rfl⟩, ((hw0.trans hE).setCell (Nat.le_refl _) _).setCell (Nat.le_refl _) _⟩
        · have hV2 : Hid (readV rc s f (a + (m + 1)) (l ++ [(k, x)]) = RV) := Lib.hid (by
            rw [HV.out _ _ _ hr.out, if_neg (by omega)])
          have hl3 : (l ++ [(k, x)]).length ≤ 20 := by rw [List.length_append]; show l.length + 1 ≤ 20; omega
          have hc : ((a + m : Nat) : Int) + 1 + 1 ≤ (s.size : Int) ∨ ¬ ((a + m : Nat) : Int) + 1 + 1 ≤ (s.size : Int) := Decidable.em _
          clear HV HN hF hus hr
          rcases hc with hc | hc
          all_goals
            as_aux_lemma =>
              go_wp2_with fail
              go_roundw
              case rel => exact ⟨f, a + (m + 1), l ++ [(k, x)], by omega, by omega, by go_num, hl3, hV2, hown, hE⟩
              case measure => simp [intOf]; omega
    · obtain rfl : a = s.size := by omega
      as_aux_lemma =>
        have hn : Hid (RV = (l, 0, -1)) := Lib.hid (by rw [← hV.out]; exact readV_end (Nat.le_refl _))
        have Hown := Lib.hid hown
        clear hV hown
        go_wp2_with fail
        refine (CG.out _).mono ?_; rintro e w1 ⟨rfl, hx1⟩
        have hE1 := hE.trans hx1
        obtain ⟨r1, r2, r3, r4, r5⟩ := fault_box hE1
        go_wp2_with fail
        rw [hn.out]
        obtain ⟨s0, s1⟩ := pr_put r1 r2 (.int .i64 0) (.int .i64 (-1))
        exact bodyPost_ret (v := .tuple #[u4, .agg #[.int .i64 0, .int .i64 (-1)]]) (by simp [results, Tryd.results16, go_sem, s0, s1]) rfl ⟨_, rfl, prs_kept (ownP_ext Hown.out hx1) (Nat.lt_succ_self _) _ _, ((hw0.trans hE1).setCell (Nat.le_refl _) _).setCell (Nat.le_refl _) _⟩
end Go.Proofs.YtbofobakphlpbaaDoor
