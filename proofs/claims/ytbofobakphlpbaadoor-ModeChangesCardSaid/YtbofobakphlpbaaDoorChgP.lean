/-
  mode.part: one part of a mode's change. No conditions.
-/
import Derived.Test.YtbofobakphlpbaaDoorChgV
import Derived.Test.YtbofobakphlpbaaDoorChgO
import Derived.Test.YtbofobakphlpbaaDoorWho
import Derived.Test.YtbofobakphlpbaaDoorShelf
namespace Go.Proofs.YtbofobakphlpbaaDoor
open Go.RowKit Go.WideShapes Go.PlainAid

theorem whoV_nat (c : UInt8) : whoV (c.toNat : Int) = (whoN c : Int) := by
  have n : ∀ k : UInt8, c ≠ k → ¬ ((c.toNat : Int) = (k.toNat : Int)) := fun k h e => h (UInt8.toNat_inj.1 (by omega))
  unfold whoV whoN
  by_cases h1 : c = 117
  · subst h1
    rfl
  · rw [if_neg (show ¬ (c.toNat : Int) = 117 from n 117 h1), if_neg h1]
    by_cases h2 : c = 103
    · subst h2
      rfl
    · rw [if_neg (show ¬ (c.toNat : Int) = 103 from n 103 h2), if_neg h2]
      by_cases h3 : c = 111
      · subst h3
        rfl
      · rw [if_neg (show ¬ (c.toNat : Int) = 111 from n 111 h3), if_neg h3]
        by_cases h4 : c = 97
        · subst h4
          rfl
        · rw [if_neg (show ¬ (c.toNat : Int) = 97 from n 97 h4), if_neg h4]
          rfl
theorem who_u8 (c : UInt8) (w : World) : Calls Tryd.prog 48 #[.int .u8 (c.toNat : Int)] w fun e w' => e = .returned (.int .i64 (whoN c : Int)) ∧ Ext w w' := by
  have := who_any (c.toNat : Int) w
  rwa [whoV_nat] at this

theorem ne_u8 {c k : UInt8} (h : c ≠ k) : ((c.toNat : Int) == (k.toNat : Int)) = false := by
  rw [beq_eq_false_iff_ne]
  exact fun e => h (UInt8.toNat_inj.1 (by omega))
set_option maxHeartbeats 1600000 in
set_option maxRecDepth 100000 in
theorem what_any (c : UInt8) (m : Nat) (hm : m < 4096) (dir : Bool) (w : World) : Calls Tryd.prog 49 #[.int .u8 (c.toNat : Int), .int .i64 (m : Int), .bool dir] w fun e w' => e = .returned (.tuple #[.int .i64 (whatN m dir c : Int), .bool (isWhat c)]) ∧ Ext w w' := by
  have ha : bits .and .i64 (m : Int) 73 = ((m &&& 73 : Nat) : Int) := and12 hm (by decide)
  by_cases h1 : c = 114
  · subst h1
    show Calls Tryd.prog _ #[.int .u8 114, _, _] _ _
    go_enter Tryd.func49, Tryd.ntmps49
    go_wp2_with fail
    go_ret2
    exact ⟨rfl, (by show Below _ _ _; repeat' (first | (with_reducible exact Below.refl _ _) | (with_reducible assumption) | (with_reducible refine belowDrewN ?_ _) | (with_reducible refine Below.alloc ?_ ?_ _) | (with_reducible refine Below.drew ?_) | (with_reducible refine Below.setCell ?_ ?_ _) | go_size))⟩
  · by_cases h2 : c = 119
    · subst h2
      show Calls Tryd.prog _ #[.int .u8 119, _, _] _ _
      go_enter Tryd.func49, Tryd.ntmps49
      go_wp2_with fail
      go_ret2
      exact ⟨rfl, (by show Below _ _ _; repeat' (first | (with_reducible exact Below.refl _ _) | (with_reducible assumption) | (with_reducible refine belowDrewN ?_ _) | (with_reducible refine Below.alloc ?_ ?_ _) | (with_reducible refine Below.drew ?_) | (with_reducible refine Below.setCell ?_ ?_ _) | go_size))⟩
    · by_cases h3 : c = 120
      · subst h3
        show Calls Tryd.prog _ #[.int .u8 120, _, _] _ _
        go_enter Tryd.func49, Tryd.ntmps49
        go_wp2_with fail
        go_ret2
        exact ⟨rfl, (by show Below _ _ _; repeat' (first | (with_reducible exact Below.refl _ _) | (with_reducible assumption) | (with_reducible refine belowDrewN ?_ _) | (with_reducible refine Below.alloc ?_ ?_ _) | (with_reducible refine Below.drew ?_) | (with_reducible refine Below.setCell ?_ ?_ _) | go_size))⟩
      · by_cases h4 : c = 88
        · subst h4
          show Calls Tryd.prog _ #[.int .u8 88, _, _] _ _
          cases dir with
          | true =>
            go_enter Tryd.func49, Tryd.ntmps49
            go_wp2_with fail
            go_ret2
            exact ⟨rfl, (by show Below _ _ _; repeat' (first | (with_reducible exact Below.refl _ _) | (with_reducible assumption) | (with_reducible refine belowDrewN ?_ _) | (with_reducible refine Below.alloc ?_ ?_ _) | (with_reducible refine Below.drew ?_) | (with_reducible refine Below.setCell ?_ ?_ _) | go_size))⟩
          | false =>
            have hv : Hid (whatN m false 88 = if !(m &&& 73 == 0) then 73 else 0) := Lib.hid rfl
            cases hq : (m &&& 73) == 0 with
            | true =>
              have e0 : m &&& 73 = 0 := by simpa using hq
              rw [e0] at ha
              rw [hq] at hv
              go_enter Tryd.func49, Tryd.ntmps49
              go_wp2_with fail
              go_ret2
              exact ⟨ret_val (by rw [hv.out]; rfl), (by show Below _ _ _; repeat' (first | (with_reducible exact Below.refl _ _) | (with_reducible assumption) | (with_reducible refine belowDrewN ?_ _) | (with_reducible refine Below.alloc ?_ ?_ _) | (with_reducible refine Below.drew ?_) | (with_reducible refine Below.setCell ?_ ?_ _) | go_size))⟩
            | false =>
              rw [hq] at hv
              have hq2 : (((m &&& 73 : Nat) : Int) == 0) = false := by
                rw [beq_eq_false_iff_ne]
                have : (m &&& 73) ≠ 0 := by simpa using hq
                omega
              have hq3 : (((m &&& 73 : Nat) : Int) != 0) = true := by rw [bne, hq2]; rfl
              generalize m &&& 73 = x at *
              clear hq
              go_enter Tryd.func49, Tryd.ntmps49
              go_wp2_with fail
              go_ret2
              exact ⟨ret_val (by rw [hv.out]; rfl), (by show Below _ _ _; repeat' (first | (with_reducible exact Below.refl _ _) | (with_reducible assumption) | (with_reducible refine belowDrewN ?_ _) | (with_reducible refine Below.alloc ?_ ?_ _) | (with_reducible refine Below.drew ?_) | (with_reducible refine Below.setCell ?_ ?_ _) | go_size))⟩
        · by_cases h5 : c = 115
          · subst h5
            show Calls Tryd.prog _ #[.int .u8 115, _, _] _ _
            go_enter Tryd.func49, Tryd.ntmps49
            go_wp2_with fail
            go_ret2
            exact ⟨rfl, (by show Below _ _ _; repeat' (first | (with_reducible exact Below.refl _ _) | (with_reducible assumption) | (with_reducible refine belowDrewN ?_ _) | (with_reducible refine Below.alloc ?_ ?_ _) | (with_reducible refine Below.drew ?_) | (with_reducible refine Below.setCell ?_ ?_ _) | go_size))⟩
          · by_cases h6 : c = 116
            · subst h6
              show Calls Tryd.prog _ #[.int .u8 116, _, _] _ _
              go_enter Tryd.func49, Tryd.ntmps49
              go_wp2_with fail
              go_ret2
              exact ⟨rfl, (by show Below _ _ _; repeat' (first | (with_reducible exact Below.refl _ _) | (with_reducible assumption) | (with_reducible refine belowDrewN ?_ _) | (with_reducible refine Below.alloc ?_ ?_ _) | (with_reducible refine Below.drew ?_) | (with_reducible refine Below.setCell ?_ ?_ _) | go_size))⟩
            · have hv : Hid (whatN m dir c = 0 ∧ isWhat c = false) := Lib.hid ⟨by unfold whatN; rw [if_neg h1, if_neg h2, if_neg h3, if_neg h4, if_neg h5, if_neg h6], by
                unfold isWhat
                rw [beq_eq_false_iff_ne.2 h1, beq_eq_false_iff_ne.2 h2, beq_eq_false_iff_ne.2 h3, beq_eq_false_iff_ne.2 h4, beq_eq_false_iff_ne.2 h5, beq_eq_false_iff_ne.2 h6]
                rfl⟩
              have n1 : ((c.toNat : Int) == 114) = false := ne_u8 h1
              have n2 : ((c.toNat : Int) == 119) = false := ne_u8 h2
              have n3 : ((c.toNat : Int) == 120) = false := ne_u8 h3
              have n4 : ((c.toNat : Int) == 88) = false := ne_u8 h4
              have n5 : ((c.toNat : Int) == 115) = false := ne_u8 h5
              have n6 : ((c.toNat : Int) == 116) = false := ne_u8 h6
              clear h1 h2 h3 h4 h5 h6 ha
              go_enter Tryd.func49, Tryd.ntmps49
              go_wp2_with fail
              go_ret2
              exact ⟨ret_val (by rw [hv.out.1, hv.out.2]; rfl), (by show Below _ _ _; repeat' (first | (with_reducible exact Below.refl _ _) | (with_reducible assumption) | (with_reducible refine belowDrewN ?_ _) | (with_reducible refine Below.alloc ?_ ?_ _) | (with_reducible refine Below.drew ?_) | (with_reducible refine Below.setCell ?_ ?_ _) | go_size))⟩
theorem str_cons {t : ByteArray} {c : UInt8} {r : List UInt8} (h : t.data.toList = c :: r) : t.size = r.length + 1 ∧ bt t 0 = (c.toNat : Int) ∧ t.toList.isEmpty = false ∧ (t.extract 1 t.size).data.toList = r ∧ (t.extract 1 t.size).size = r.length := by
  obtain ⟨⟨l⟩⟩ := t
  obtain rfl : l = c :: r := h
  have e1 : ((⟨⟨c :: r⟩⟩ : ByteArray).extract 1 (⟨⟨c :: r⟩⟩ : ByteArray).size).data.toList = r := by
    rw [ByteArray.data_extract]
    simp [ByteArray.size]
  have e2 : 0 < (⟨⟨c :: r⟩⟩ : ByteArray).size := by show 0 < r.length + 1; omega
  refine ⟨rfl, ?_, emp_f e2, e1, congrArg List.length e1⟩
  unfold bt
  rw [dif_pos e2]
  rfl
theorem str_hid {t : ByteArray} {c : UInt8} {r : List UInt8} (h : t.data.toList = c :: r) : 0 < t.size ∧ bt t 0 = (c.toNat : Int) ∧ t.toList.isEmpty = false ∧ Hid ((t.extract 1 t.size).data.toList = r) ∧ Hid ((t.extract 1 t.size).size < t.size) := by
  obtain ⟨a1, a2, a3, a4, a5⟩ := str_cons h
  exact ⟨by omega, a2, a3, Lib.hid a4, Lib.hid (by omega)⟩
/-- A text cut where its letters stop being of a kind. -/
theorem span_of {p : UInt8 → Bool} {pre r L : List UInt8} (h : L = pre ++ r) (hp : ∀ c ∈ pre, p c = true) (hr : ∀ c t, r = c :: t → p c = false) : L.takeWhile p = pre ∧ L.dropWhile p = r := by
  subst h
  induction pre with
  | nil =>
    cases r with
    | nil => exact ⟨rfl, rfl⟩
    | cons c t => simp [hr c t rfl]
  | cons x l ih =>
    have hx := hp x (by simp)
    have := ih fun c hc => hp c (by simp [hc])
    simp [hx, this.1, this.2]

theorem sign_ix (c : UInt8) : decide (Lib.indexByte (⟨#[43, 45, 61]⟩ : ByteArray).data.toList c < 0) = !(c == 43 || c == 45 || c == 61) := by
  show decide (Lib.indexByte [43, 45, 61] c < 0) = _
  by_cases h1 : c = 43
  · subst h1
    rfl
  · by_cases h2 : c = 45
    · subst h2
      rfl
    · by_cases h3 : c = 61
      · subst h3
        rfl
      · rw [beq_eq_false_iff_ne.2 h1, beq_eq_false_iff_ne.2 h2, beq_eq_false_iff_ne.2 h3]
        have n1 : ((43 : UInt8) == c) = false := beq_eq_false_iff_ne.2 fun e => h1 e.symm
        have n2 : ((45 : UInt8) == c) = false := beq_eq_false_iff_ne.2 fun e => h2 e.symm
        have n3 : ((61 : UInt8) == c) = false := beq_eq_false_iff_ne.2 fun e => h3 e.symm
        have e : Lib.indexByte [43, 45, 61] c = -1 := by simp [Lib.indexByte, n1, n2, n3]
        rw [e]
        rfl
theorem ixByte_any (s : ByteArray) (c : UInt8) (w : World) : Calls Tryd.prog 42 #[.string s, .int .u8 (c.toNat : Int)] w fun e w' => e = .returned (.int .i64 (Lib.indexByte s.data.toList c)) ∧ Ext w w' :=
  (Tryd.strings_IndexByte s (c.toNat : Int) w).mono fun _ _ ⟨h, k⟩ => ⟨by rw [h]; simp, by rw [k]; exact Ext.refl _⟩

theorem step43 (K : Nat) (KI : Int) (h : KI = (K : Int)) (hK : K < 4096) (m b : Nat) (h1 : m < 4096) (_ : b < 4096) : bits .or .i64 (m : Int) (bits .and .i64 (b : Int) KI) = ((applyN 43 K m b : Nat) : Int) := by
  rw [h, and12 (by assumption) hK, or12 h1 (and_lt _ hK), apply43]
theorem step45 (K : Nat) (KI : Int) (h : KI = (K : Int)) (hK : K < 4096) (m b : Nat) (h1 : m < 4096) (_ : b < 4096) : bits .andNot .i64 (m : Int) (bits .and .i64 (b : Int) KI) = ((applyN 45 K m b : Nat) : Int) := by
  rw [h, and12 (by assumption) hK, andn12 h1 (and_lt _ hK), apply45]
theorem step61 (K : Nat) (KI : Int) (h : KI = (K : Int)) (hK : K < 4096) (m b : Nat) (h1 : m < 4096) (_ : b < 4096) : bits .or .i64 (bits .andNot .i64 (m : Int) KI) (bits .and .i64 (b : Int) KI) = ((applyN 61 K m b : Nat) : Int) := by
  rw [h, and12 (by assumption) hK, andn12 h1 hK, or12 (andn_lt _ h1) (and_lt _ hK), apply61]
/-- A text's length. -/
def szOf' : Value → Nat
  | .string t => t.size
  | _ => 0
/-- What a part gives. -/
def partR (v : Option Nat) : Value := match v with
  | some x => .tuple #[.int .i64 (x : Int), .bool true]
  | none => .tuple #[.int .i64 0, .bool false]
set_option maxHeartbeats 4000000 in
set_option maxRecDepth 100000 in
theorem part_any (s : ByteArray) (m : Nat) (hm : m < 4096) (dir : Bool) (w : World) : Calls Tryd.prog 26 #[.int .i64 (m : Int), .string s, .bool dir] w fun e w' => e = .returned (partR (partV m dir s.data.toList)) ∧ Ext w w' := by
  obtain ⟨V, hV⟩ : ∃ V, V = partR (partV m dir s.data.toList) := ⟨_, rfl⟩
  have HV := Lib.hid hV
  rw [← hV]
  clear hV
  go_enter Tryd.func26, Tryd.ntmps26
  go_wp2_with fail
  go_loopw [1, 8] (fun sv ov wr => ∃ (t : ByteArray) (pre : List UInt8), sv = .string t ∧ Hid (s.data.toList = pre ++ t.data.toList) ∧ Hid (∀ c ∈ pre, isWho c = true) ∧ ov = .int .i64 (unionN whoN pre : Int) ∧ Ext w wr) (fun sv _ _ => szOf' sv)
  case atStart => exact ⟨s, [], rfl, Lib.hid rfl, Lib.hid (fun c hc => by cases hc), rfl, Ext.refl _⟩
  case round =>
    obtain ⟨t, pre, rfl, hL, hpre, rfl, hE⟩ := hrel
    have hb := get_bt t
    have hu := union_lt whoN_lt pre
    cases hl : t.data.toList with
    | nil =>
      have z1 := emp_t hl
      have hsp := span_of (L := s.data.toList) (pre := pre) (r := []) (by rw [hL.out, hl]) hpre.out (fun c r h => by cases h)
      have hv : Hid (V = .tuple #[.int .i64 0, .bool false]) := Lib.hid (by
        rw [HV.out]
        unfold partV
        rw [if_pos hsp.2]
        rfl)
      clear hsp
      generalize unionN whoN pre = u at *
      cases q1 : ((u : Int) == 0)
      all_goals
        go_wp2_with fail
        go_ret2
        exact ⟨ret_val (by rw [hv.out]; rfl), hE⟩
    | cons c r =>
      obtain ⟨a1, a2, a3, a4, a5⟩ := str_hid hl
      have CW := Lib.hid (fun w => who_u8 c w)
      cases hw : isWho c with
      | true =>
        have hne : whoN c ≠ 0 := who_ne hw
        have q1 : ((whoN c : Int) != 0) = true := by simp [hne]
        have hor := or12 hu (whoN_lt c)
        rw [← union_snoc] at hor
        go_wp2_with fail
        refine (CW.out _).mono ?_; rintro e w1 ⟨rfl, hx1⟩
        go_wp2_with fail
        refine wp_region_det (Stood _) (by kernel_rfl) (by kernel_rfl) (Stood.start _) ?_
        repeat (first
          | (refine det_skip (by rfl) ?_; simp only [Act.put, List.setIfInBounds_toArray, List.set_cons_zero, List.set_cons_succ])
          | (refine det_op (v := ?_) rfl (by rfl) (fun w' hS => ?_) ?_; rotate_left; (focus (obtain ⟨hcl, hxt⟩ := hS; go_wp2_with (first | ((with_reducible refine (CW.out _).mono ?_); rintro e w1 ⟨rfl, hx1⟩)); (first | refine ⟨?_, rfl, hcl, hxt⟩ | refine ⟨?_, rfl, Stood.of (hxt.trans (by assumption))⟩); (first | (simp only [List.getElem?_toArray, List.getElem?_cons_succ, List.getElem?_cons_zero]; rfl) | rfl))); simp only [Act.put, List.setIfInBounds_toArray, List.set_cons_zero, List.set_cons_succ]))
        refine det_end ?_
        intro w2 hS
        have hx2 := hS.2
        clear hS
        go_wp2_with fail
        go_roundw
        case rel => exact ⟨t.extract 1 t.size, pre ++ [c], rfl, Lib.hid (by rw [hL.out, hl, a4.out]; simp), Lib.hid (fun x hx => by
          rcases List.mem_append.1 hx with h | h
          · exact hpre.out x h
          · simp at h; subst h; exact hw), by first | rw [hor] | rfl, hE.trans (hx1.trans hx2)⟩
        case measure => exact a5.out
      | false =>
        have hw0 : whoN c = 0 := who_not hw
        rw [hw0] at CW
        have hsp := span_of (L := s.data.toList) (pre := pre) (r := c :: r) (by rw [hL.out, hl]) hpre.out (fun x y h => by injection h with h1 h2; rw [← h1]; exact hw)
        have hvp : V = partR (opsV (maskV s.data.toList) dir m t.data.toList) := by
          rw [HV.out]
          unfold partV
          rw [if_neg (by rw [hsp.2]; simp), hsp.2, hl]
        have hmk : maskV s.data.toList = if unionN whoN pre = 0 then 4095 else unionN whoN pre := by
          unfold maskV
          rw [hsp.1]
        rw [hmk] at hvp
        clear hmk hsp hw0 hw
        generalize unionN whoN pre = u at *
        obtain ⟨t0, ht0⟩ : ∃ t0 : List UInt8, t0 = t.data.toList := ⟨_, rfl⟩
        rw [← ht0] at hvp
        have Ht0 := Lib.hid ht0
        clear ht0
        by_cases hu0 : u = 0
        · subst hu0
          rw [if_pos rfl] at hvp
          have HVp := Lib.hid hvp
          have S43 := fun m b (h1 : m < 4096) (h2 : b < 4096) => step43 4095 4095 rfl (by decide) m b h1 h2
          have S45 := fun m b (h1 : m < 4096) (h2 : b < 4096) => step45 4095 4095 rfl (by decide) m b h1 h2
          have S61 := fun m b (h1 : m < 4096) (h2 : b < 4096) => step61 4095 4095 rfl (by decide) m b h1 h2
          have LTK : ∀ op m b, m < 4096 → applyN op 4095 m b < 4096 := fun op m b h => apply_lt op (by decide) h
          have H43 := Lib.hid S43
          have H45 := Lib.hid S45
          have H61 := Lib.hid S61
          have HLT := Lib.hid LTK
          clear S43 S45 S61 LTK hvp
          go_wp2_with fail
          refine (CW.out _).mono ?_; rintro e w1 ⟨rfl, hx1⟩
          go_wp2_with fail
          go_loopw [0, 1] (fun mv sv wr => ∃ (m' : Nat) (t' : ByteArray), mv = .int .i64 (m' : Int) ∧ sv = .string t' ∧ m' < 4096 ∧ Hid (opsV 4095 dir m' t'.data.toList = opsV 4095 dir m t0) ∧ Ext w wr) (fun _ sv _ => szOf' sv)
          case atStart => exact ⟨m, t, rfl, rfl, hm, Lib.hid (by rw [Ht0.out]), hE.trans hx1⟩
          case round =>
            obtain ⟨m', t', rfl, rfl, hm', hops, hE2⟩ := hrel
            have hb2 := get_bt t'
            cases hl' : t'.data.toList with
            | nil =>
              have z1 := emp_t hl'
              have hv : Hid (V = .tuple #[.int .i64 (m' : Int), .bool true]) := Lib.hid (by
                rw [HVp.out, ← hops.out, hl', opsV_nil]
                rfl)
              go_wp2_with fail
              go_ret2
              exact ⟨ret_val (by rw [hv.out]; rfl), hE2⟩
            | cons op r' =>
              obtain ⟨b1, b2, b3, b4, b5⟩ := str_hid hl'
              have CI := Lib.hid (fun w => ixByte_any ⟨#[43, 45, 61]⟩ op w)
              have hsg := sign_ix op
              cases hs' : (op == 43 || op == 45 || op == 61) with
              | false =>
                rw [hs'] at hsg
                have hv : Hid (V = .tuple #[.int .i64 0, .bool false]) := Lib.hid (by
                  rw [HVp.out, ← hops.out, hl', opsV_cons, hs']
                  rfl)
                generalize Lib.indexByte (⟨#[43, 45, 61]⟩ : ByteArray).data.toList op = ix at *
                go_wp2_with fail
                refine (CI.out _).mono ?_; rintro e w3 ⟨rfl, hx3⟩
                go_wp2_with fail
                go_ret2
                exact ⟨ret_val (by rw [hv.out]; rfl), hE2.trans hx3⟩
              | true =>
                rw [hs'] at hsg
                have hop : Hid (opsV 4095 dir (applyN op 4095 m' (unionN (whatN m' dir) (r'.takeWhile isWhat))) (r'.dropWhile isWhat) = opsV 4095 dir m t0) := Lib.hid (by
                  rw [← hops.out, hl', opsV_cons, hs']
                  rfl)
                generalize Lib.indexByte (⟨#[43, 45, 61]⟩ : ByteArray).data.toList op = ix at *
                have B4 := b4
                have hle0 := b5
                go_wp2_with fail
                refine (CI.out _).mono ?_; rintro e w3 ⟨rfl, hx3⟩
                go_wp2_with fail
                have hE3 := hE2.trans hx3
                generalize t'.extract 1 t'.size = t1 at *
                have hle1 := hle0.out
                clear hx3 hE2 b4 b5 b3 hsg hb2 hle0
                obtain ⟨wo, hwo⟩ : ∃ wo : World, wo = w3 := ⟨_, rfl⟩
                go_loopw [1, 10] (fun sv bv wr => ∃ (v : ByteArray) (pre2 : List UInt8), sv = .string v ∧ v.size ≤ t1.size ∧ Hid (r' = pre2 ++ v.data.toList) ∧ Hid (∀ c ∈ pre2, isWhat c = true) ∧ bv = .int .i64 (unionN (whatN m' dir) pre2 : Int) ∧ Ext w wr) (fun sv _ _ => szOf' sv)
                case atStart => exact ⟨t1, [], rfl, Nat.le_refl _, Lib.hid (by rw [B4.out]; rfl), Lib.hid (fun c hc => by cases hc), rfl, hE3⟩
                case round =>
                  obtain ⟨v, pre2, rfl, hvs, hr2, hp2, rfl, hE4⟩ := hrel
                  have hb3 := get_bt v
                  have hu2 := union_lt (whatN_lt m' dir) pre2
                  have fin : (∀ c y, v.data.toList = c :: y → isWhat c = false) → Hid (opsV 4095 dir (applyN op 4095 m' (unionN (whatN m' dir) pre2)) v.data.toList = opsV 4095 dir m t0) := fun h => by
                    have h2 := span_of (L := r') (pre := pre2) (r := v.data.toList) hr2.out hp2.out h
                    have h3 := hop.out
                    rw [h2.1, h2.2] at h3
                    exact Lib.hid h3
                  cases hl2 : v.data.toList with
                  | nil =>
                    have z2 := emp_t hl2
                    have hfin := fin (fun c y h => by rw [hl2] at h; cases h)
                    have s43 := H43.out m' _ hm' hu2
                    have s45 := H45.out m' _ hm' hu2
                    have s61 := H61.out m' _ hm' hu2
                    have hlt2 := HLT.out op m' (unionN (whatN m' dir) pre2) hm'
                    clear fin
                    generalize unionN (whatN m' dir) pre2 = bb at *
                    rcases (show op = 43 ∨ op = 45 ∨ op = 61 by simpa [or_assoc] using hs') with rfl | rfl | rfl
                    all_goals
                      go_wp2_with fail
                      go_roundw
                      case rel => exact ⟨_, v, rfl, rfl, hlt2, hfin, hE4⟩
                      case measure => show v.size < t'.size; omega
                  | cons c2 r2 =>
                    obtain ⟨d1, d2, d3, d4, d5⟩ := str_hid hl2
                    have CH := Lib.hid (fun w => what_any c2 m' hm' dir w)
                    cases hw2 : isWhat c2 with
                    | true =>
                      rw [hw2] at CH
                      have hor2 := or12 hu2 (whatN_lt m' dir c2)
                      rw [← union_snoc] at hor2
                      clear fin
                      go_wp2_with fail
                      refine (CH.out _).mono ?_; rintro e w5 ⟨rfl, hx5⟩
                      go_wp2_with fail
                      refine wp_region_det (Stood _) (by kernel_rfl) (by kernel_rfl) (Stood.start _) ?_
                      repeat (first
                        | (refine det_skip (by rfl) ?_; simp only [Act.put, List.setIfInBounds_toArray, List.set_cons_zero, List.set_cons_succ])
                        | (refine det_op (v := ?_) rfl (by rfl) (fun w' hS => ?_) ?_; rotate_left; (focus (obtain ⟨hcl, hxt⟩ := hS; go_wp2_with (fail); (first | refine ⟨?_, rfl, hcl, hxt⟩ | refine ⟨?_, rfl, Stood.of (hxt.trans (by assumption))⟩); (first | (simp only [List.getElem?_toArray, List.getElem?_cons_succ, List.getElem?_cons_zero]; rfl) | rfl))); simp only [Act.put, List.setIfInBounds_toArray, List.set_cons_zero, List.set_cons_succ]))
                      refine det_end ?_
                      intro w6 hS
                      have hx6 := hS.2
                      clear hS
                      go_wp2_with fail
                      go_roundw
                      case rel => exact ⟨v.extract 1 v.size, pre2 ++ [c2], rfl, by have := d5.out; omega, Lib.hid (by rw [hr2.out, hl2, d4.out]; simp), Lib.hid (fun x hx => by
                        rcases List.mem_append.1 hx with h | h
                        · exact hp2.out x h
                        · simp at h; subst h; exact hw2), by first | rw [hor2] | rfl, hE4.trans (hx5.trans hx6)⟩
                      case measure => exact d5.out
                    | false =>
                      rw [hw2] at CH
                      have hfin := fin (fun c y h => by rw [hl2] at h; injection h with h1 h2; rw [← h1]; exact hw2)
                      have s43 := H43.out m' _ hm' hu2
                      have s45 := H45.out m' _ hm' hu2
                      have s61 := H61.out m' _ hm' hu2
                      have hlt2 := HLT.out op m' (unionN (whatN m' dir) pre2) hm'
                      clear fin
                      generalize unionN (whatN m' dir) pre2 = bb at *
                      rcases (show op = 43 ∨ op = 45 ∨ op = 61 by simpa [or_assoc] using hs') with rfl | rfl | rfl
                      all_goals
                        go_wp2_with fail
                        refine (CH.out _).mono ?_; rintro e w5 ⟨rfl, hx5⟩
                        go_wp2_with fail
                        go_roundw
                        case rel => exact ⟨_, v, rfl, rfl, hlt2, hfin, hE4.trans hx5⟩
                        case measure => show v.size < t'.size; omega
        · rw [if_neg hu0] at hvp
          have q0 : ((u : Int) == 0) = false := by simpa using hu0
          have HVp := Lib.hid hvp
          have S43 := fun m b (h1 : m < 4096) (h2 : b < 4096) => step43 u (u : Int) rfl hu m b h1 h2
          have S45 := fun m b (h1 : m < 4096) (h2 : b < 4096) => step45 u (u : Int) rfl hu m b h1 h2
          have S61 := fun m b (h1 : m < 4096) (h2 : b < 4096) => step61 u (u : Int) rfl hu m b h1 h2
          have LTK : ∀ op m b, m < 4096 → applyN op u m b < 4096 := fun op m b h => apply_lt op hu h
          have H43 := Lib.hid S43
          have H45 := Lib.hid S45
          have H61 := Lib.hid S61
          have HLT := Lib.hid LTK
          clear S43 S45 S61 LTK hvp hu0
          go_wp2_with fail
          refine (CW.out _).mono ?_; rintro e w1 ⟨rfl, hx1⟩
          go_wp2_with fail
          go_loopw [0, 1] (fun mv sv wr => ∃ (m' : Nat) (t' : ByteArray), mv = .int .i64 (m' : Int) ∧ sv = .string t' ∧ m' < 4096 ∧ Hid (opsV u dir m' t'.data.toList = opsV u dir m t0) ∧ Ext w wr) (fun _ sv _ => szOf' sv)
          case atStart => exact ⟨m, t, rfl, rfl, hm, Lib.hid (by rw [Ht0.out]), hE.trans hx1⟩
          case round =>
            obtain ⟨m', t', rfl, rfl, hm', hops, hE2⟩ := hrel
            have hb2 := get_bt t'
            cases hl' : t'.data.toList with
            | nil =>
              have z1 := emp_t hl'
              have hv : Hid (V = .tuple #[.int .i64 (m' : Int), .bool true]) := Lib.hid (by
                rw [HVp.out, ← hops.out, hl', opsV_nil]
                rfl)
              go_wp2_with fail
              go_ret2
              exact ⟨ret_val (by rw [hv.out]; rfl), hE2⟩
            | cons op r' =>
              obtain ⟨b1, b2, b3, b4, b5⟩ := str_hid hl'
              have CI := Lib.hid (fun w => ixByte_any ⟨#[43, 45, 61]⟩ op w)
              have hsg := sign_ix op
              cases hs' : (op == 43 || op == 45 || op == 61) with
              | false =>
                rw [hs'] at hsg
                have hv : Hid (V = .tuple #[.int .i64 0, .bool false]) := Lib.hid (by
                  rw [HVp.out, ← hops.out, hl', opsV_cons, hs']
                  rfl)
                generalize Lib.indexByte (⟨#[43, 45, 61]⟩ : ByteArray).data.toList op = ix at *
                go_wp2_with fail
                refine (CI.out _).mono ?_; rintro e w3 ⟨rfl, hx3⟩
                go_wp2_with fail
                go_ret2
                exact ⟨ret_val (by rw [hv.out]; rfl), hE2.trans hx3⟩
              | true =>
                rw [hs'] at hsg
                have hop : Hid (opsV u dir (applyN op u m' (unionN (whatN m' dir) (r'.takeWhile isWhat))) (r'.dropWhile isWhat) = opsV u dir m t0) := Lib.hid (by
                  rw [← hops.out, hl', opsV_cons, hs']
                  rfl)
                generalize Lib.indexByte (⟨#[43, 45, 61]⟩ : ByteArray).data.toList op = ix at *
                have B4 := b4
                have hle0 := b5
                go_wp2_with fail
                refine (CI.out _).mono ?_; rintro e w3 ⟨rfl, hx3⟩
                go_wp2_with fail
                have hE3 := hE2.trans hx3
                generalize t'.extract 1 t'.size = t1 at *
                have hle1 := hle0.out
                clear hx3 hE2 b4 b5 b3 hsg hb2 hle0
                obtain ⟨wo, hwo⟩ : ∃ wo : World, wo = w3 := ⟨_, rfl⟩
                go_loopw [1, 10] (fun sv bv wr => ∃ (v : ByteArray) (pre2 : List UInt8), sv = .string v ∧ v.size ≤ t1.size ∧ Hid (r' = pre2 ++ v.data.toList) ∧ Hid (∀ c ∈ pre2, isWhat c = true) ∧ bv = .int .i64 (unionN (whatN m' dir) pre2 : Int) ∧ Ext w wr) (fun sv _ _ => szOf' sv)
                case atStart => exact ⟨t1, [], rfl, Nat.le_refl _, Lib.hid (by rw [B4.out]; rfl), Lib.hid (fun c hc => by cases hc), rfl, hE3⟩
                case round =>
                  obtain ⟨v, pre2, rfl, hvs, hr2, hp2, rfl, hE4⟩ := hrel
                  have hb3 := get_bt v
                  have hu2 := union_lt (whatN_lt m' dir) pre2
                  have fin : (∀ c y, v.data.toList = c :: y → isWhat c = false) → Hid (opsV u dir (applyN op u m' (unionN (whatN m' dir) pre2)) v.data.toList = opsV u dir m t0) := fun h => by
                    have h2 := span_of (L := r') (pre := pre2) (r := v.data.toList) hr2.out hp2.out h
                    have h3 := hop.out
                    rw [h2.1, h2.2] at h3
                    exact Lib.hid h3
                  cases hl2 : v.data.toList with
                  | nil =>
                    have z2 := emp_t hl2
                    have hfin := fin (fun c y h => by rw [hl2] at h; cases h)
                    have s43 := H43.out m' _ hm' hu2
                    have s45 := H45.out m' _ hm' hu2
                    have s61 := H61.out m' _ hm' hu2
                    have hlt2 := HLT.out op m' (unionN (whatN m' dir) pre2) hm'
                    clear fin
                    generalize unionN (whatN m' dir) pre2 = bb at *
                    rcases (show op = 43 ∨ op = 45 ∨ op = 61 by simpa [or_assoc] using hs') with rfl | rfl | rfl
                    all_goals
                      go_wp2_with fail
                      go_roundw
                      case rel => exact ⟨_, v, rfl, rfl, hlt2, hfin, hE4⟩
                      case measure => show v.size < t'.size; omega
                  | cons c2 r2 =>
                    obtain ⟨d1, d2, d3, d4, d5⟩ := str_hid hl2
                    have CH := Lib.hid (fun w => what_any c2 m' hm' dir w)
                    cases hw2 : isWhat c2 with
                    | true =>
                      rw [hw2] at CH
                      have hor2 := or12 hu2 (whatN_lt m' dir c2)
                      rw [← union_snoc] at hor2
                      clear fin
                      go_wp2_with fail
                      refine (CH.out _).mono ?_; rintro e w5 ⟨rfl, hx5⟩
                      go_wp2_with fail
                      refine wp_region_det (Stood _) (by kernel_rfl) (by kernel_rfl) (Stood.start _) ?_
                      repeat (first
                        | (refine det_skip (by rfl) ?_; simp only [Act.put, List.setIfInBounds_toArray, List.set_cons_zero, List.set_cons_succ])
                        | (refine det_op (v := ?_) rfl (by rfl) (fun w' hS => ?_) ?_; rotate_left; (focus (obtain ⟨hcl, hxt⟩ := hS; go_wp2_with (fail); (first | refine ⟨?_, rfl, hcl, hxt⟩ | refine ⟨?_, rfl, Stood.of (hxt.trans (by assumption))⟩); (first | (simp only [List.getElem?_toArray, List.getElem?_cons_succ, List.getElem?_cons_zero]; rfl) | rfl))); simp only [Act.put, List.setIfInBounds_toArray, List.set_cons_zero, List.set_cons_succ]))
                      refine det_end ?_
                      intro w6 hS
                      have hx6 := hS.2
                      clear hS
                      go_wp2_with fail
                      go_roundw
                      case rel => exact ⟨v.extract 1 v.size, pre2 ++ [c2], rfl, by have := d5.out; omega, Lib.hid (by rw [hr2.out, hl2, d4.out]; simp), Lib.hid (fun x hx => by
                        rcases List.mem_append.1 hx with h | h
                        · exact hp2.out x h
                        · simp at h; subst h; exact hw2), by first | rw [hor2] | rfl, hE4.trans (hx5.trans hx6)⟩
                      case measure => exact d5.out
                    | false =>
                      rw [hw2] at CH
                      have hfin := fin (fun c y h => by rw [hl2] at h; injection h with h1 h2; rw [← h1]; exact hw2)
                      have s43 := H43.out m' _ hm' hu2
                      have s45 := H45.out m' _ hm' hu2
                      have s61 := H61.out m' _ hm' hu2
                      have hlt2 := HLT.out op m' (unionN (whatN m' dir) pre2) hm'
                      clear fin
                      generalize unionN (whatN m' dir) pre2 = bb at *
                      rcases (show op = 43 ∨ op = 45 ∨ op = 61 by simpa [or_assoc] using hs') with rfl | rfl | rfl
                      all_goals
                        go_wp2_with fail
                        refine (CH.out _).mono ?_; rintro e w5 ⟨rfl, hx5⟩
                        go_wp2_with fail
                        go_roundw
                        case rel => exact ⟨_, v, rfl, rfl, hlt2, hfin, hE4.trans hx5⟩
                        case measure => show v.size < t'.size; omega
end Go.Proofs.YtbofobakphlpbaaDoor
