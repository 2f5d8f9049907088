/-
  The reference's Line: its walk. No conditions but the member's bounds.
-/
import Derived.Test.YtbofobakphlpbaaDoorShW
import Derived.Test.YtbofobakphlpbaaDoorDateR
import Derived.Test.YtbofobakphlpbaaDoorModeRef
import Derived.Deep.CutBlock
import Derived.Test.YtbofobakphlpbaaDoorCutL
namespace Go.Proofs.YtbofobakphlpbaaDoor
open Go.RowKit Go.WideShapes Go.PlainAid

set_option maxRecDepth 100000 in
theorem two_any (n : Int) (h0 : 0 ≤ n) (h1 : n ≤ 99) (w : World) (ht : HasPow w) : Calls Tryd.prog 40 #[.int .i64 n] w fun e w' => e = .returned (.string (padInt n 2)) ∧ Ext w w' := by
  obtain ⟨m, rfl⟩ := Int.eq_ofNat_of_zero_le h0
  obtain ⟨t1, t2⟩ := two_dec m (by omega)
  have C := Lib.hid (fun w ht => itoa_nat (100 + m) (by omega) w ht)
  have e1 : ((100 + m : Nat) : Int) = 100 + (m : Int) := by omega
  rw [e1] at C
  obtain ⟨D, hD⟩ : ∃ D : ByteArray, D = ⟨(Lib.decDigits (100 + m)).toArray⟩ := ⟨_, rfl⟩
  have hz : D.size = 3 := by rw [hD]; show (Lib.decDigits (100 + m)).toArray.size = 3; rw [List.size_toArray, t2]
  have hv : Hid (D.extract 1 D.size = padInt (m : Int) 2) := Lib.hid (by
    refine b_eq ?_
    have e2 : padInt (m : Int) 2 = padNat m 2 := by unfold padInt; rw [if_neg (by omega)]; rfl
    rw [e2, ← t1, b_drop, hD])
  rw [← hD] at C
  clear hD e1 t1 t2
  go_enter Tryd.func40, Tryd.ntmps40
  go_wp2_with fail
  refine (C.out w ht).mono ?_; rintro e w1 ⟨rfl, hx1⟩
  go_wp2_with fail
  go_ret
  exact ⟨ret_val (by rw [← hv.out, hz] <;> rfl), hx1⟩
/-- A year between the rounds that fill it up. -/
theorem zeros_succ (k : Nat) : zerosB (k + 1) = ⟨#[48]⟩ ++ zerosB k := by
  refine b_eq ?_
  rw [ByteArray.data_append]
  show (Lib.repeatL [48] (k + 1)).toArray.toList = _
  simp [zerosB, Lib.repeatL]

theorem zerosB_data (k : Nat) : (zerosB k).data.toList = List.replicate k 48 := by
  induction k with
  | zero => rfl
  | succ k ih =>
    rw [zeros_succ, ByteArray.data_append, Array.toList_append, ih]
    rfl
theorem year_parts (y : Int) : ∃ pre D : ByteArray, (⟨(Lib.itoa y).toArray⟩ : ByteArray) = pre ++ (zerosB 0 ++ D) ∧ 1 ≤ D.size ∧ pre.size ≤ 1 ∧
    (∀ j, ((bt (pre ++ (zerosB j ++ D)) 0 == 45) = true ∧ (⟨#[45, 48]⟩ : ByteArray) ++ (pre ++ (zerosB j ++ D)).extract 1 (pre ++ (zerosB j ++ D)).size = pre ++ (zerosB (j + 1) ++ D)) ∨
      ((bt (pre ++ (zerosB j ++ D)) 0 == 45) = false ∧ (⟨#[48]⟩ : ByteArray) ++ (pre ++ (zerosB j ++ D)) = pre ++ (zerosB (j + 1) ++ D))) ∧
    (∀ j, 4 ≤ pre.size + j + D.size → (j = 0 ∨ pre.size + j + D.size ≤ 4) → pre ++ (zerosB j ++ D) = padInt y 4) := by
  have hd1 : ∀ n, 1 ≤ (decB n).size := fun n => by rw [decB_size, Lib.decDigits_length]; exact Lib.nDigits_pos n
  have hdd : ∀ n, (decB n).data.toList = Lib.decDigits n := fun n => rfl
  by_cases h : y < 0
  · refine ⟨⟨#[45]⟩, decB y.natAbs, ?_, hd1 _, Nat.le_refl _, fun j => .inl ?_, fun j h1 h2 => ?_⟩
    · refine b_eq ?_
      rw [ByteArray.data_append, ByteArray.data_append, Array.toList_append, Array.toList_append, zerosB_data, hdd]
      show Lib.itoa y = _
      unfold Lib.itoa
      rw [if_pos h]
      rfl
    · have e : ((⟨#[45]⟩ : ByteArray) ++ (zerosB j ++ decB y.natAbs)).data.toList = 45 :: (zerosB j ++ decB y.natAbs).data.toList := by
        rw [ByteArray.data_append, Array.toList_append]; rfl
      obtain ⟨_, b2, _, b4⟩ := b_cons e
      refine ⟨by rw [b2]; rfl, b_eq ?_⟩
      rw [ByteArray.data_append, Array.toList_append, b4, ByteArray.data_append, Array.toList_append, zeros_succ]
      simp [ByteArray.data_append]
    · have hz : (⟨#[45]⟩ : ByteArray).size = 1 := rfl
      have hj : j = 3 - (Lib.decDigits y.natAbs).length := by rw [hz, decB_size] at h1 h2; omega
      unfold padInt padNat
      rw [if_pos h, hj]
  · refine ⟨⟨#[]⟩, decB y.toNat, ?_, hd1 _, Nat.zero_le _, fun j => .inr ?_, fun j h1 h2 => ?_⟩
    · refine b_eq ?_
      rw [ByteArray.data_append, ByteArray.data_append, Array.toList_append, Array.toList_append, zerosB_data, hdd]
      show Lib.itoa y = _
      unfold Lib.itoa
      rw [if_neg h]
      rfl
    · have e0 : ((⟨#[]⟩ : ByteArray) ++ (zerosB j ++ decB y.toNat)).data.toList = List.replicate j 48 ++ Lib.decDigits y.toNat := by
        rw [ByteArray.data_append, ByteArray.data_append, Array.toList_append, Array.toList_append, zerosB_data, hdd]; rfl
      refine ⟨?_, b_eq ?_⟩
      · have hall : ∀ c ∈ List.replicate j (48 : UInt8) ++ Lib.decDigits y.toNat, 48 ≤ c.toNat := fun c hc => by
          rcases List.mem_append.1 hc with h1 | h1
          · rw [List.eq_of_mem_replicate h1]; decide
          · exact (digits_mem _ c h1).1
        cases hl : List.replicate j (48 : UInt8) ++ Lib.decDigits y.toNat with
        | nil =>
          have := congrArg List.length hl
          rw [List.length_append] at this
          have h3 := hd1 y.toNat
          rw [decB_size] at h3
          rw [List.length_replicate, List.length_nil] at this
          omega
        | cons c r =>
          have h3 := hall c (by rw [hl]; exact List.mem_cons_self)
          rw [(b_cons (e0.trans hl)).2.1, beq_eq_false_iff_ne]
          omega
      · rw [ByteArray.data_append, Array.toList_append, e0]
        rw [ByteArray.data_append, ByteArray.data_append, Array.toList_append, Array.toList_append, zerosB_data, hdd]
        rfl
    · have hz : (⟨#[]⟩ : ByteArray).size = 0 := rfl
      have hj : j = 4 - (Lib.decDigits y.toNat).length := by rw [hz, decB_size] at h1 h2; omega
      unfold padInt padNat
      rw [if_neg h, hj]
      refine b_eq ?_
      rw [ByteArray.data_append, Array.toList_append]
      rfl

set_option maxHeartbeats 8000000 in
set_option maxRecDepth 100000 in
theorem refLine_any (e : Ent) (hb : e.Bd) (Q : ByteArray → ByteArray) (w : World) (ht : HasPow w) (hQ : QuoteC Q w) : Calls Tryd.prog 15 #[.agg #[.string e.nm, .int .u8 e.kd, .int .i64 e.md, .int .i64 e.ui, .int .i64 e.gi, .int .i64 e.sz, .int .i64 e.ts, .int .i64 e.tn, .string e.lk, .string e.us, .string e.gr, .int .i64 e.ma, .int .i64 e.mi, .string e.dt, .slice e.pa e.pn e.pc]] w fun x w' => x = .returned (.string (lineB e Q)) ∧ Ext w w' := by
  obtain ⟨bui, bgi, bsz, bma, bmi, bt0, bt1, bnm, blk, bus, bgr, bk0, bk1⟩ := hb
  obtain ⟨LB, hLB0⟩ : ∃ LB, LB = lineB e Q := ⟨_, rfl⟩
  have hLB := Lib.hid hLB0
  rw [← hLB0]
  clear hLB0
  obtain ⟨y0, y1, m0, m1, d0, d1, h0, h1, i0, i1⟩ := date_bd e.ts bt0 bt1
  have hx0 : Ext w (w.alloc (.cells #[.string e.nm, .int .u8 e.kd, .int .i64 e.md, .int .i64 e.ui, .int .i64 e.gi, .int .i64 e.sz, .int .i64 e.ts, .int .i64 e.tn, .string e.lk, .string e.us, .string e.gr, .int .i64 e.ma, .int .i64 e.mi, .string e.dt, .slice e.pa e.pn e.pc] 40)) := (Ext.refl w).alloc _
  have hA0 : EntAt (w.alloc (.cells #[.string e.nm, .int .u8 e.kd, .int .i64 e.md, .int .i64 e.ui, .int .i64 e.gi, .int .i64 e.sz, .int .i64 e.ts, .int .i64 e.tn, .string e.lk, .string e.us, .string e.gr, .int .i64 e.ma, .int .i64 e.mi, .string e.dt, .slice e.pa e.pn e.pc] 40)) w.heap.size e := by
    unfold EntAt
    simp
  have Csz := Lib.hid (fun w ht => itoa_any e.sz bsz.1 bsz.2 w ht)
  have Cma := Lib.hid (fun w ht => itoa_any e.ma bma.1 bma.2 w ht)
  have Cmi := Lib.hid (fun w ht => itoa_any e.mi bmi.1 bmi.2 w ht)
  have Cui := Lib.hid (fun w ht => itoa_any e.ui bui.1 bui.2 w ht)
  have Cgi := Lib.hid (fun w ht => itoa_any e.gi bgi.1 bgi.2 w ht)
  obtain ⟨rg, hrg⟩ : ∃ rg, rg = (decide (48 ≤ e.kd) && decide (e.kd ≤ 54)) := ⟨_, rfl⟩
  have CW := Lib.hid (fun w => within_same e.kd 48 54 w)
  rw [← hrg] at CW
  have Hrg := Lib.hid hrg
  clear hrg
  have zma := itoB_size bma
  have zmi := itoB_size bmi
  have hsv : Hid (sizeB e = if e.kd = 51 ∨ e.kd = 52 then itoB e.ma ++ ⟨#[44]⟩ ++ itoB e.mi else itoB e.sz) := Lib.hid rfl
  have zsv : (sizeB e).size ≤ 70 := by
    have := itoB_size bsz
    rw [hsv.out]
    split
    · rw [ByteArray.size_append, ByteArray.size_append]
      show _ + 1 + _ ≤ 70
      omega
    · omega
  have hit : Hid ((⟨(Lib.itoa e.sz).toArray⟩ : ByteArray) = itoB e.sz ∧ (⟨(Lib.itoa e.ma).toArray⟩ : ByteArray) = itoB e.ma ∧ (⟨(Lib.itoa e.mi).toArray⟩ : ByteArray) = itoB e.mi) := Lib.hid ⟨rfl, rfl, rfl⟩
  rw [hit.out.1] at Csz
  rw [hit.out.2.1] at Cma
  rw [hit.out.2.2] at Cmi
  generalize itoB e.sz = IS at *
  generalize itoB e.ma = IM at *
  generalize itoB e.mi = IN at *
  have hou : Hid (orB e.us e.ui = if e.us.toList.isEmpty then ⟨(Lib.itoa e.ui).toArray⟩ else e.us) := Lib.hid rfl
  have hog : Hid (orB e.gr e.gi = if e.gr.toList.isEmpty then ⟨(Lib.itoa e.gi).toArray⟩ else e.gr) := Lib.hid rfl
  generalize (⟨(Lib.itoa e.ui).toArray⟩ : ByteArray) = IU at *
  generalize (⟨(Lib.itoa e.gi).toArray⟩ : ByteArray) = IG at *
  clear hit
  go_enter Tryd.func15, Tryd.ntmps15
  obtain ⟨W1, hW1⟩ : ∃ W1, W1 = (w.alloc (.cells #[.string e.nm, .int .u8 e.kd, .int .i64 e.md, .int .i64 e.ui, .int .i64 e.gi, .int .i64 e.sz, .int .i64 e.ts, .int .i64 e.tn, .string e.lk, .string e.us, .string e.gr, .int .i64 e.ma, .int .i64 e.mi, .string e.dt, .slice e.pa e.pn e.pc] 40)) := ⟨_, rfl⟩
  rw [← hW1] at hx0 hA0
  go_upto_region 2 with fail
  rw [← hW1]
  clear hW1
  obtain ⟨c0, c1, c2, c3, c4, c5, c6, c7, c8, c9, c10, c11, c12, c13⟩ := hA0
  have A1 := Lib.hid (show EntAt W1 w.heap.size e from ⟨c0, c1, c2, c3, c4, c5, c6, c7, c8, c9, c10, c11, c12, c13⟩)
  go_wp2_with fail
  refine (CW.out _).mono ?_; rintro x w9 ⟨rfl, hw9⟩
  rw [hw9]; clear hw9 w9
  go_upto_if 14 with fail
  go_cut [3] (fun v wx => v = .string (letB e.kd) ∧ wx = W1)
  case first =>
    cases rg with
    | true =>
      have hk := Hrg.out.symm
      rw [Bool.and_eq_true, decide_eq_true_eq, decide_eq_true_eq] at hk
      obtain ⟨hk1, hk2⟩ := hk
      have hv : Hid (((⟨#[45, 104, 108, 99, 98, 100, 112]⟩ : ByteArray).extract (e.kd - 48).toNat 7).extract 0 1 = letB e.kd) := Lib.hid (by
        obtain ⟨j, hj⟩ : ∃ j : Nat, e.kd - 48 = (j : Int) := ⟨(e.kd - 48).toNat, by omega⟩
        have hj6 : j ≤ 6 := by omega
        unfold letB
        rw [if_neg (by omega), hj, Int.toNat_natCast]
        rcases (show j = 0 ∨ j = 1 ∨ j = 2 ∨ j = 3 ∨ j = 4 ∨ j = 5 ∨ j = 6 by omega) with rfl | rfl | rfl | rfl | rfl | rfl | rfl <;> decide +kernel)
      have hz : 1 ≤ ((⟨#[45, 104, 108, 99, 98, 100, 112]⟩ : ByteArray).extract (e.kd - 48).toNat 7).size := by
        rw [ByteArray.size_extract]; show 1 ≤ min 7 7 - _; omega
      as_aux_lemma =>
        go_wp2_with fail
        go_meet
        exact ⟨by rw [hv.out], rfl⟩
    | false =>
      have hv : Hid ((⟨#[63]⟩ : ByteArray) = letB e.kd) := Lib.hid (by
        have hk := Hrg.out.symm
        rw [Bool.and_eq_false_iff, decide_eq_false_iff_not, decide_eq_false_iff_not] at hk
        unfold letB
        rw [if_pos (by omega)])
      as_aux_lemma =>
        go_wp2_with fail
        go_meet
        exact ⟨by rw [hv.out], rfl⟩
  case rest =>
    obtain ⟨rfl, hw9⟩ := hcut
    rw [hw9]
    clear hw9
    go_upto_region 4 with fail
    refine wp_region_det (Stood _) (by kernel_rfl) (by kernel_rfl) (Stood.start _) ?_
    repeat (first
      | (refine det_skip (by rfl) ?_; simp only [Act.put, List.setIfInBounds_toArray, List.set_cons_zero, List.set_cons_succ])
      | (refine det_op (v := ?_) rfl (by rfl) (fun w' hS => ?_) ?_; rotate_left; (focus (obtain ⟨hcl, hxt⟩ := hS; go_wp2_with (first | ((with_reducible refine (Csz.out _ (ht.ext (hx0.trans hxt))).mono ?_); rintro e w1 ⟨rfl, hx1⟩)); (first | refine ⟨?_, rfl, hcl, hxt⟩ | refine ⟨?_, rfl, Stood.of (hxt.trans (by assumption))⟩); (first | (simp only [List.getElem?_toArray, List.getElem?_cons_succ, List.getElem?_cons_zero]; rfl) | rfl))); simp only [Act.put, List.setIfInBounds_toArray, List.set_cons_zero, List.set_cons_succ]))
    refine det_end ?_
    intro w2 hS
    have hE2 := hS.2
    clear hS
    have hy2 := hx0.trans hE2
    have A2 := A1.out.ext hE2
    clear c0 c1 c2 c3 c4 c5 c6 c7 c8 c9 c10 c11 c12 c13
    obtain ⟨c0, c1, c2, c3, c4, c5, c6, c7, c8, c9, c10, c11, c12, c13⟩ := A2
    have A2 := Lib.hid (show EntAt w2 w.heap.size e from ⟨c0, c1, c2, c3, c4, c5, c6, c7, c8, c9, c10, c11, c12, c13⟩)
    have zu : (orB e.us e.ui).size ≤ 700 ∧ (orB e.gr e.gi).size ≤ 700 := by
      have z1 := itoB_size bui
      have z2 := itoB_size bgi
      unfold itoB at z1 z2
      unfold orB
      constructor
      · split
        · omega
        · exact bus
      · split
        · omega
        · exact bgr
    go_upto_if 28 with fail
    go_cut [4] (fun v wx => v = .string (orB e.us e.ui) ∧ Ext w2 wx)
    case first =>
      cases hq : e.us.toList.isEmpty
      · as_aux_lemma =>
          have Hq := Lib.hid hq
          go_wp2_with fail
          go_meet
          exact ⟨by rw [hou.out, Hq.out]; rfl, Ext.refl _⟩
      · as_aux_lemma =>
          have Hq := Lib.hid hq
          go_wp2_with fail
          refine (Cui.out _ (ht.ext hy2)).mono ?_; rintro x w3 ⟨rfl, hx3⟩
          go_wp2_with fail
          go_meet
          exact ⟨by rw [hou.out, Hq.out]; rfl, hx3⟩
    case rest =>
      obtain ⟨rfl, hE3⟩ := hcut
      obtain ⟨W3, hW3⟩ : ∃ W3, W3 = wc := ⟨_, rfl⟩
      rw [← hW3] at hE3
      rw [← hW3]
      clear hW3
      have hy3 := hy2.trans hE3
      have A3 := A2.out.ext hE3
      clear c0 c1 c2 c3 c4 c5 c6 c7 c8 c9 c10 c11 c12 c13
      obtain ⟨c0, c1, c2, c3, c4, c5, c6, c7, c8, c9, c10, c11, c12, c13⟩ := A3
      have A3 := Lib.hid (show EntAt W3 w.heap.size e from ⟨c0, c1, c2, c3, c4, c5, c6, c7, c8, c9, c10, c11, c12, c13⟩)
      go_upto_if 33 with fail
      go_cut [5] (fun v wx => v = .string (orB e.gr e.gi) ∧ Ext W3 wx)
      case first =>
        cases hq : e.gr.toList.isEmpty
        · as_aux_lemma =>
            have Hq := Lib.hid hq
            go_wp2_with fail
            go_meet
            exact ⟨by rw [hog.out, Hq.out]; rfl, Ext.refl _⟩
        · as_aux_lemma =>
            have Hq := Lib.hid hq
            go_wp2_with fail
            refine (Cgi.out _ (ht.ext hy3)).mono ?_; rintro x w4 ⟨rfl, hx4⟩
            go_wp2_with fail
            go_meet
            exact ⟨by rw [hog.out, Hq.out]; rfl, hx4⟩
      case rest =>
        obtain ⟨rfl, hE4⟩ := hcut
        obtain ⟨W4, hW4⟩ : ∃ W4, W4 = wc := ⟨_, rfl⟩
        rw [← hW4] at hE4
        rw [← hW4]
        clear hW4
        have hy4 := hy3.trans hE4
        have A4 := A3.out.ext hE4
        clear c0 c1 c2 c3 c4 c5 c6 c7 c8 c9 c10 c11 c12 c13
        obtain ⟨c0, c1, c2, c3, c4, c5, c6, c7, c8, c9, c10, c11, c12, c13⟩ := A4
        have A4 := Lib.hid (show EntAt W4 w.heap.size e from ⟨c0, c1, c2, c3, c4, c5, c6, c7, c8, c9, c10, c11, c12, c13⟩)
        obtain ⟨zl2, cl2⟩ := hQ e.lk blk
        have CK2 := Lib.hid (cl2 _ hy4)
        have hlk : Hid (lnkB e Q = if e.kd = 49 then ⟨#[32, 105, 115, 32]⟩ ++ Q e.lk else if e.kd = 50 then ⟨#[32, 45, 62, 32]⟩ ++ Q e.lk else ⟨#[]⟩) := Lib.hid rfl
        have zlk : (lnkB e Q).size ≤ 8000 := by
          rw [hlk.out]
          split
          · rw [ByteArray.size_append]; show 4 + _ ≤ _; omega
          · split
            · rw [ByteArray.size_append]; show 4 + _ ≤ _; omega
            · exact Nat.zero_le _
        generalize Q e.lk = QL at *
        clear cl2
        go_upto_block 0 with fail
        go_cut [6, 7] (fun a b wx => a = .string (sizeB e) ∧ b = .string (lnkB e Q) ∧ Ext W4 wx)
        case first =>
          by_cases h49 : e.kd = 49
          · as_aux_lemma =>
              have q1 : (e.kd == 49) = true := by simpa using h49
              have hz : Hid (lnkB e Q = ⟨#[32, 105, 115, 32]⟩ ++ QL ∧ sizeB e = IS) := Lib.hid ⟨by rw [hlk.out, if_pos h49], by rw [hsv.out, if_neg (by omega)]⟩
              clear h49
              go_wp2_with fail
              refine CK2.out.mono ?_; rintro x w5 ⟨rfl, hx5⟩
              go_wp2_with fail
              go_meet
              exact ⟨by rw [hz.out.2], by rw [hz.out.1], hx5⟩
          · by_cases h50 : e.kd = 50
            · as_aux_lemma =>
                have q1 : (e.kd == 49) = false := by simpa using h49
                have q2 : (e.kd == 50) = true := by simpa using h50
                have hz : Hid (lnkB e Q = ⟨#[32, 45, 62, 32]⟩ ++ QL ∧ sizeB e = IS) := Lib.hid ⟨by rw [hlk.out, if_neg h49, if_pos h50], by rw [hsv.out, if_neg (by omega)]⟩
                clear h49 h50
                go_wp2_with fail
                refine CK2.out.mono ?_; rintro x w5 ⟨rfl, hx5⟩
                go_wp2_with fail
                go_meet
                exact ⟨by rw [hz.out.2], by rw [hz.out.1], hx5⟩
            · have q1 : (e.kd == 49) = false := by simpa using h49
              have q2 : (e.kd == 50) = false := by simpa using h50
              by_cases hdv : e.kd = 51 ∨ e.kd = 52
              · have hz : Hid (lnkB e Q = ⟨#[]⟩ ∧ sizeB e = IM ++ ⟨#[44]⟩ ++ IN) := Lib.hid ⟨by rw [hlk.out, if_neg h49, if_neg h50], by rw [hsv.out, if_pos hdv]⟩
                have hq : (e.kd == 51) = true ∨ ((e.kd == 51) = false ∧ (e.kd == 52) = true) := by
                  by_cases h1 : e.kd = 51
                  · exact .inl (by simpa using h1)
                  · exact .inr ⟨by simpa using h1, by simp; omega⟩
                clear h49 h50 hdv
                rcases hq with q3 | ⟨q3, q4⟩
                all_goals
                  as_aux_lemma =>
                    go_wp2_with fail
                    refine wp_region_det (Stood _) (by kernel_rfl) (by kernel_rfl) (Stood.start _) ?_
                    repeat (first
                      | (refine det_skip (by rfl) ?_; simp only [Act.put, List.setIfInBounds_toArray, List.set_cons_zero, List.set_cons_succ])
                      | (refine det_op (v := ?_) rfl (by rfl) (fun w' hS => ?_) ?_; rotate_left; (focus (obtain ⟨hcl, hxt⟩ := hS; go_wp2_with (first | ((with_reducible refine (Cma.out _ (ht.ext (hy4.trans hxt))).mono ?_); rintro e w1 ⟨rfl, hx1⟩) | ((with_reducible refine (Cmi.out _ (ht.ext (hy4.trans hxt))).mono ?_); rintro e w1 ⟨rfl, hx1⟩)); (first | refine ⟨?_, rfl, hcl, hxt⟩ | refine ⟨?_, rfl, Stood.of (hxt.trans (by assumption))⟩); (first | (simp only [List.getElem?_toArray, List.getElem?_cons_succ, List.getElem?_cons_zero]; rfl) | rfl))); simp only [Act.put, List.setIfInBounds_toArray, List.set_cons_zero, List.set_cons_succ]))
                    refine det_end ?_
                    intro w5 hS
                    have hx5 := hS.2
                    clear hS
                    go_wp2_with fail
                    go_meet
                    exact ⟨by rw [hz.out.2], by rw [hz.out.1], hx5⟩
              · as_aux_lemma =>
                  have hz : Hid (lnkB e Q = ⟨#[]⟩ ∧ sizeB e = IS) := Lib.hid ⟨by rw [hlk.out, if_neg h49, if_neg h50], by rw [hsv.out, if_neg hdv]⟩
                  have q3 : (e.kd == 51) = false := by simp; omega
                  have q4 : (e.kd == 52) = false := by simp; omega
                  clear h49 h50 hdv
                  go_wp2_with fail
                  go_meet
                  exact ⟨by rw [hz.out.2], by rw [hz.out.1], Ext.refl _⟩
        case rest =>
          obtain ⟨rfl, rfl, hE5⟩ := hcut
          obtain ⟨W5, hW5⟩ : ∃ W5, W5 = wc := ⟨_, rfl⟩
          rw [← hW5] at hE5
          rw [← hW5]
          clear hW5 CK2 hsv Csz Cma Cmi Cui Cgi CW zma zmi
          have hy5 := hy4.trans hE5
          have A5 := A4.out.ext hE5
          clear c0 c1 c2 c3 c4 c5 c6 c7 c8 c9 c10 c11 c12 c13
          obtain ⟨c0, c1, c2, c3, c4, c5, c6, c7, c8, c9, c10, c11, c12, c13⟩ := A5
          have A5 := Lib.hid (show EntAt W5 w.heap.size e from ⟨c0, c1, c2, c3, c4, c5, c6, c7, c8, c9, c10, c11, c12, c13⟩)
          have CD := Lib.hid (fun w => refDate_any e.ts e.tn bt0 bt1 w)
          have hdv : Hid (dateVal e.ts = .agg #[.int .i64 (Cal.dateY (dayOf e.ts)), .int .i64 (Cal.dateM (dayOf e.ts)), .int .i64 (Cal.dateD (dayOf e.ts)), .int .i64 (secOf e.ts / 3600), .int .i64 (secOf e.ts / 60 % 60), .int .i64 (secOf e.ts % 60)]) := Lib.hid rfl
          rw [hdv.out] at CD
          have hlv : Hid (LB = lineA (letB e.kd) ⟨(modeL e.md).toArray⟩ (orB e.us e.ui) (orB e.gr e.gi) (sizeB e)
              (padInt (Cal.dateY (dayOf e.ts)) 4 ++ ⟨#[45]⟩ ++ padInt (Cal.dateM (dayOf e.ts)) 2 ++ ⟨#[45]⟩ ++ padInt (Cal.dateD (dayOf e.ts)) 2) (padInt (secOf e.ts / 3600) 2 ++ ⟨#[58]⟩ ++ padInt (secOf e.ts / 60 % 60) 2) (Q e.nm) ++ lnkB e Q) := Lib.hid hLB.out
          generalize sizeB e = SZ at *
          generalize lnkB e Q = LK at *
          generalize Cal.dateY (dayOf e.ts) = y at *
          generalize Cal.dateM (dayOf e.ts) = m at *
          generalize Cal.dateD (dayOf e.ts) = d at *
          generalize secOf e.ts / 3600 = h at *
          generalize secOf e.ts / 60 % 60 = i at *
          generalize secOf e.ts % 60 = s6 at *
          have Pm := Lib.hid (fun w ht => two_any m m0 (by omega) w ht)
          have Pd := Lib.hid (fun w ht => two_any d d0 (by omega) w ht)
          have Ph := Lib.hid (fun w ht => two_any h h0 (by omega) w ht)
          have Pi := Lib.hid (fun w ht => two_any i i0 (by omega) w ht)
          have zy := padInt_size (n := y) (d := 4) (by omega) (by omega) (by omega)
          have zm := padInt_size (n := m) (d := 2) (by omega) (by omega) (by omega)
          have zd := padInt_size (n := d) (d := 2) (by omega) (by omega) (by omega)
          have zh := padInt_size (n := h) (d := 2) (by omega) (by omega) (by omega)
          have zi := padInt_size (n := i) (d := 2) (by omega) (by omega) (by omega)
          generalize padInt m 2 = pm at *
          generalize padInt d 2 = pd at *
          generalize padInt h 2 = ph at *
          generalize padInt i 2 = pi at *
          have Cy := Lib.hid (fun w ht => itoa_any y (by omega) (by omega) w ht)
          clear m0 m1 d0 d1 h0 h1 i0 i1 hdv
          go_wp2_with fail
          refine (CD.out _).mono ?_; rintro x w6 ⟨rfl, hx6⟩
          have hy6 := hy5.trans hx6
          have A6 := A5.out.ext hx6
          clear c0 c1 c2 c3 c4 c5 c6 c7 c8 c9 c10 c11 c12 c13 hx6 hy5 A5
          go_upto_region 18 with fail
          have hx7 : Ext w6 (w6.alloc (.cells #[.int .i64 y, .int .i64 m, .int .i64 d, .int .i64 h, .int .i64 i, .int .i64 s6] 76)) := (Ext.refl w6).alloc _
          have f0 : (w6.alloc (.cells #[.int .i64 y, .int .i64 m, .int .i64 d, .int .i64 h, .int .i64 i, .int .i64 s6] 76)).cell? ⟨w6.heap.size, 0, none⟩ = some (.int .i64 y) := by simp
          have f1 : (w6.alloc (.cells #[.int .i64 y, .int .i64 m, .int .i64 d, .int .i64 h, .int .i64 i, .int .i64 s6] 76)).cell? ⟨w6.heap.size, 1, none⟩ = some (.int .i64 m) := by simp
          have f2 : (w6.alloc (.cells #[.int .i64 y, .int .i64 m, .int .i64 d, .int .i64 h, .int .i64 i, .int .i64 s6] 76)).cell? ⟨w6.heap.size, 2, none⟩ = some (.int .i64 d) := by simp
          have f3 : (w6.alloc (.cells #[.int .i64 y, .int .i64 m, .int .i64 d, .int .i64 h, .int .i64 i, .int .i64 s6] 76)).cell? ⟨w6.heap.size, 3, none⟩ = some (.int .i64 h) := by simp
          have f4 : (w6.alloc (.cells #[.int .i64 y, .int .i64 m, .int .i64 d, .int .i64 h, .int .i64 i, .int .i64 s6] 76)).cell? ⟨w6.heap.size, 4, none⟩ = some (.int .i64 i) := by simp
          have fl : w6.heap.size < (w6.alloc (.cells #[.int .i64 y, .int .i64 m, .int .i64 d, .int .i64 h, .int .i64 i, .int .i64 s6] 76)).heap.size := by simp
          have A7 := A6.ext hx7
          have hy7 := hy6.trans hx7
          generalize (w6.alloc (.cells #[.int .i64 y, .int .i64 m, .int .i64 d, .int .i64 h, .int .i64 i, .int .i64 s6] 76)) = W7 at *
          clear A6 hy6 hx7
          go_wp2_with fail
          refine (Cy.out _ (ht.ext hy7)).mono ?_; rintro x w8 ⟨rfl, hx8⟩
          have A8 := A7.ext hx8
          have hy8 := hy7.trans hx8
          have g1 := hx8.cell f1
          have g2 := hx8.cell f2
          have g3 := hx8.cell f3
          have g4 := hx8.cell f4
          have gl : w6.heap.size < w8.heap.size := World.block_lt_of_cell? w8 _ g1
          clear f0 f1 f2 f3 f4 fl A7 hy7 hx8 Cy CD
          obtain ⟨pre, D, yp1, yp2, yp3, yp4, yp5⟩ := year_parts y
          have Y1 := Lib.hid yp1
          have Y3 := Lib.hid yp3
          have Y4 := Lib.hid yp4
          have Y5 := Lib.hid yp5
          clear yp1 yp3 yp4 yp5
          rw [Y1.out]
          go_wp2_with fail
          go_loopw [10] (fun v wr => ∃ j : Nat, v = .string (pre ++ (zerosB j ++ D)) ∧ (j = 0 ∨ pre.size + j + D.size ≤ 4) ∧ wr = w8) (fun v _ => match v with | .string x => 4 - x.size | _ => 0)
          case atStart => exact ⟨0, rfl, .inl rfl, rfl⟩
          case round =>
            obtain ⟨j, rfl, hj, hw9⟩ := hrel
            rw [hw9]
            clear hw9
            have hxs : (pre ++ (zerosB j ++ D)).size = pre.size + j + D.size := by
              rw [ByteArray.size_append, ByteArray.size_append, zerosB_size]; omega
            have Z4 := Lib.hid (Y4.out j)
            obtain ⟨x, hx⟩ : ∃ x, x = pre ++ (zerosB j ++ D) := ⟨_, rfl⟩
            rw [← hx] at hxs Z4
            rw [← hx]
            have Hx := Lib.hid hx
            clear hx
            have hbX := get_bt x
            have hx0 : 0 < x.size := by omega
            have Hxs := Lib.hid hxs
            clear hxs
            by_cases h4 : x.size < 4
            · rcases Z4.out with ⟨hb, he⟩ | ⟨hb, he⟩
              · have q : (bt x 0 == 45) = true := hb
                have He := Lib.hid he
                have h4i : (x.size : Int) < 4 := by omega
                have hes : (x.extract 1 x.size).size ≤ 10 := by rw [ByteArray.size_extract]; omega
                have hxe : ((⟨#[45, 48]⟩ : ByteArray) ++ x.extract 1 x.size).size = x.size + 1 := by
                  rw [ByteArray.size_append, ByteArray.size_extract]; show 2 + _ = _; omega
                clear hb he
                as_aux_lemma =>
                  go_wp2_with fail
                  go_roundw
                  case rel => exact ⟨j + 1, by rw [He.out], .inr (by have := Hxs.out; omega), by first | rfl | trivial⟩
                  case measure => show 4 - ((⟨#[45, 48]⟩ : ByteArray) ++ x.extract 1 x.size).size < 4 - x.size; omega
              · have q : (bt x 0 == 45) = false := hb
                have He := Lib.hid he
                have h4i : (x.size : Int) < 4 := by omega
                have hxe : ((⟨#[48]⟩ : ByteArray) ++ x).size = x.size + 1 := by
                  rw [ByteArray.size_append]; show 1 + _ = _; omega
                clear hb he
                as_aux_lemma =>
                  go_wp2_with fail
                  go_roundw
                  case rel => exact ⟨j + 1, by rw [He.out], .inr (by have := Hxs.out; omega), by first | rfl | trivial⟩
                  case measure => show 4 - ((⟨#[48]⟩ : ByteArray) ++ x).size < 4 - x.size; omega
            · have hfin : x = padInt y 4 := by rw [Hx.out]; exact Y5.out j (by have := Hxs.out; omega) hj
              have Hfin := Lib.hid hfin
              rw [← hfin] at hlv zy
              have h4i : ¬ (x.size : Int) < 4 := by omega
              obtain ⟨c0, c1, c2, c3, c4, c5, c6, c7, c8, c9, c10, c11, c12, c13⟩ := A8
              have CM := Lib.hid (fun w => refModeText_any e.md w)
              obtain ⟨zq, cq⟩ := hQ e.nm bnm
              have CQ := Lib.hid cq
              have zl := letB_size e.kd
              have zmd : (⟨(modeL e.md).toArray⟩ : ByteArray).size ≤ 20 := by
                show (modeL e.md).toArray.size ≤ 20
                rw [List.size_toArray]
                exact modeL_le e.md
              obtain ⟨zu1, zg1⟩ := zu
              generalize letB e.kd = LT at *
              generalize (⟨(modeL e.md).toArray⟩ : ByteArray) = MD at *
              generalize orB e.us e.ui = US at *
              generalize orB e.gr e.gi = GR at *
              generalize hqn : Q e.nm = QN at *
              have hz : Hid (LB = LT ++ MD ++ ⟨#[32]⟩ ++ US ++ ⟨#[47]⟩ ++ GR ++ ⟨#[32]⟩ ++ SZ ++ ⟨#[32]⟩ ++ x ++ ⟨#[45]⟩ ++ pm ++ ⟨#[45]⟩ ++ pd ++ ⟨#[32]⟩ ++ ph ++ ⟨#[58]⟩ ++ pi ++ ⟨#[32]⟩ ++ QN ++ LK) := Lib.hid (by
                rw [hlv.out]
                unfold lineA
                simp only [ByteArray.append_assoc])
              clear cq hqn hfin Z4 Hfin Hx hj Y1 Y3 Y4 Y5 hlv hou hog hLB hlk hQ
              as_aux_lemma =>
                go_wp2_with fail
                refine wp_region_det (Stood _) (by kernel_rfl) (by kernel_rfl) (Stood.start _) ?_
                repeat (first
                  | (refine det_skip (by rfl) ?_; simp only [Act.put, List.setIfInBounds_toArray, List.set_cons_zero, List.set_cons_succ])
                  | (refine det_op (v := ?_) rfl (by rfl) (fun w' hS => ?_) ?_; rotate_left; (focus (obtain ⟨hcl, hxt⟩ := hS; go_wp2_with (first | ((with_reducible refine (CM.out _).mono ?_); rintro e w1 ⟨rfl, hx1⟩) | ((with_reducible refine (Pm.out _ (ht.ext (hy8.trans hxt))).mono ?_); rintro e w1 ⟨rfl, hx1⟩) | ((with_reducible refine (Pd.out _ (ht.ext (hy8.trans hxt))).mono ?_); rintro e w1 ⟨rfl, hx1⟩) | ((with_reducible refine (Ph.out _ (ht.ext (hy8.trans hxt))).mono ?_); rintro e w1 ⟨rfl, hx1⟩) | ((with_reducible refine (Pi.out _ (ht.ext (hy8.trans hxt))).mono ?_); rintro e w1 ⟨rfl, hx1⟩) | ((with_reducible refine (CQ.out _ (hy8.trans hxt)).mono ?_); rintro e w1 ⟨rfl, hx1⟩)); (first | refine ⟨?_, rfl, hcl, hxt⟩ | refine ⟨?_, rfl, Stood.of (hxt.trans (by assumption))⟩); (first | (simp only [List.getElem?_toArray, List.getElem?_cons_succ, List.getElem?_cons_zero]; rfl) | rfl))); simp only [Act.put, List.setIfInBounds_toArray, List.set_cons_zero, List.set_cons_succ]))
                refine det_end ?_
                intro w9 hS
                have hx9 := hS.2
                clear hS
                go_wp2_with fail
                go_ret
                exact ⟨ret_val (by rw [hz.out] <;> rfl), hy8.trans hx9⟩
end Go.Proofs.YtbofobakphlpbaaDoor
