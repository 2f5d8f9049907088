/-
  show.Line: its walk. No conditions but the member's bounds.
-/
import Derived.Test.YtbofobakphlpbaaDoorShP
import Derived.Test.YtbofobakphlpbaaDoorDates
import Derived.Test.YtbofobakphlpbaaDoorMode
import Derived.Test.YtbofobakphlpbaaDoorEntArg
import Derived.Test.YtbofobakphlpbaaDoorBt
namespace Go.Proofs.YtbofobakphlpbaaDoor
open Go.RowKit Go.WideShapes Go.PlainAid

/-- A member's fields in a block. -/
def EntAt (W : World) (b : Nat) (e : Ent) : Prop := W.cell? ⟨b, 0, none⟩ = some (.string e.nm) ∧ W.cell? ⟨b, 1, none⟩ = some (.int .u8 e.kd) ∧ W.cell? ⟨b, 2, none⟩ = some (.int .i64 e.md) ∧ W.cell? ⟨b, 3, none⟩ = some (.int .i64 e.ui) ∧ W.cell? ⟨b, 4, none⟩ = some (.int .i64 e.gi) ∧ W.cell? ⟨b, 5, none⟩ = some (.int .i64 e.sz) ∧
  W.cell? ⟨b, 6, none⟩ = some (.int .i64 e.ts) ∧ W.cell? ⟨b, 7, none⟩ = some (.int .i64 e.tn) ∧ W.cell? ⟨b, 8, none⟩ = some (.string e.lk) ∧ W.cell? ⟨b, 9, none⟩ = some (.string e.us) ∧ W.cell? ⟨b, 10, none⟩ = some (.string e.gr) ∧ W.cell? ⟨b, 11, none⟩ = some (.int .i64 e.ma) ∧ W.cell? ⟨b, 12, none⟩ = some (.int .i64 e.mi) ∧ b < W.heap.size
theorem EntAt.ext {W W' : World} {b : Nat} {e : Ent} (h : EntAt W b e) (hE : Ext W W') : EntAt W' b e := by
  obtain ⟨h0, h1, h2, h3, h4, h5, h6, h7, h8, h9, h10, h11, h12, h13⟩ := h
  exact ⟨hE.cell h0, hE.cell h1, hE.cell h2, hE.cell h3, hE.cell h4, hE.cell h5, hE.cell h6, hE.cell h7, hE.cell h8, hE.cell h9, hE.cell h10, hE.cell h11, hE.cell h12, Nat.lt_of_lt_of_le h13 hE.size⟩
/-- Its numbers fit. -/
def Fits64 (n : Int) : Prop := -9223372036854775808 ≤ n ∧ n ≤ 9223372036854775807
structure Ent.Bd (e : Ent) : Prop where
  ui : Fits64 e.ui
  gi : Fits64 e.gi
  sz : Fits64 e.sz
  ma : Fits64 e.ma
  mi : Fits64 e.mi
  ts0 : -1099511627776 ≤ e.ts
  ts1 : e.ts ≤ 1099511627776
  nm : e.nm.size ≤ 700
  lk : e.lk.size ≤ 700
  us : e.us.size ≤ 700
  gr : e.gr.size ≤ 700
  kd0 : 0 ≤ e.kd
  kd1 : e.kd ≤ 255
def itoB (n : Int) : ByteArray := ⟨(Lib.itoa n).toArray⟩
theorem itoB_size {n : Int} (h : Fits64 n) : (itoB n).size ≤ 30 := by
  have key : ∀ (k n : Nat), n < 10 ^ (k + 1) → Lib.nDigits n ≤ k + 1 := by
    intro k
    induction k with
    | zero => intro n h; rw [Lib.nDigits_small (by simpa using h)]; omega
    | succ k ih =>
      intro n h
      by_cases h2 : n < 10
      · rw [Lib.nDigits_small h2]; omega
      · rw [Lib.nDigits_big h2]
        have := ih (n / 10) (by rw [Nat.pow_succ] at h; exact Nat.div_lt_of_lt_mul (by rw [Nat.mul_comm]; exact h))
        omega
  have hd : ∀ m : Nat, m ≤ 9223372036854775808 → (Lib.decDigits m).length ≤ 20 := fun m hm => by
    rw [Lib.decDigits_length]
    exact key 19 m (Nat.lt_of_le_of_lt hm (by decide))
  obtain ⟨h1, h2⟩ := h
  show (Lib.itoa n).toArray.size ≤ 30
  rw [List.size_toArray]
  unfold Lib.itoa
  split
  · rw [List.length_cons]; have := hd n.natAbs (by omega); omega
  · have := hd n.toNat (by omega); omega
def sizeB (e : Ent) : ByteArray := if e.kd = 51 ∨ e.kd = 52 then itoB e.ma ++ ⟨#[44]⟩ ++ itoB e.mi else itoB e.sz
/-- The line's parts but the last. -/
def lineA (LT MD US GR SZ DY CK QN : ByteArray) : ByteArray := LT ++ MD ++ ⟨#[32]⟩ ++ US ++ ⟨#[47]⟩ ++ GR ++ ⟨#[32]⟩ ++ SZ ++ ⟨#[32]⟩ ++ DY ++ ⟨#[32]⟩ ++ CK ++ ⟨#[32]⟩ ++ QN
def dayB (a : Int) : ByteArray := padInt (Cal.dateY (dayOf a)) 4 ++ ⟨#[45]⟩ ++ padInt (Cal.dateM (dayOf a)) 2 ++ ⟨#[45]⟩ ++ padInt (Cal.dateD (dayOf a)) 2
def clkB (a : Int) : ByteArray := padInt (secOf a / 3600) 2 ++ ⟨#[58]⟩ ++ padInt (secOf a / 60 % 60) 2
def lnkB (e : Ent) (Q : ByteArray → ByteArray) : ByteArray := if e.kd = 49 then ⟨#[32, 105, 115, 32]⟩ ++ Q e.lk else if e.kd = 50 then ⟨#[32, 45, 62, 32]⟩ ++ Q e.lk else ⟨#[]⟩
def lineB (e : Ent) (Q : ByteArray → ByteArray) : ByteArray := lineA (letB e.kd) ⟨(modeL e.md).toArray⟩ (orB e.us e.ui) (orB e.gr e.gi) (sizeB e) (dayB e.ts) (clkB e.ts) (Q e.nm) ++ lnkB e Q
theorem padInt_size {n : Int} {d : Nat} (h0 : -1000000000 < n) (h1 : n < 1000000000) (hd : d ≤ 10) : (padInt n d).size ≤ 30 := by
  have hp : ∀ m d : Nat, m < 10000000000 → d ≤ 10 → (padNat m d).size ≤ 20 := fun m d hm hd => by
    unfold padNat
    rw [ByteArray.size_append, zerosB_size, decB_size]
    have := nDig_le m hm
    rw [← Lib.decDigits_length] at this
    omega
  unfold padInt
  split
  · rw [ByteArray.size_append]
    have := hp n.natAbs (d - 1) (by omega) (by omega)
    show 1 + _ ≤ 30
    omega
  · have := hp n.toNat d (by omega) hd
    omega
/-- What strconv.Quote gives, at each later world. -/
def QuoteC (Q : ByteArray → ByteArray) (w : World) : Prop := ∀ s : ByteArray, s.size ≤ 700 → (Q s).size ≤ 7002 ∧ ∀ W, Ext w W → Calls Tryd.prog 38 #[.string s] W fun e w' => e = .returned (.string (Q s)) ∧ Ext W w'
theorem date_bd (a : Int) (h0 : -1099511627776 ≤ a) (h1 : a ≤ 1099511627776) : -200000 ≤ Cal.dateY (dayOf a) ∧ Cal.dateY (dayOf a) ≤ 200000 ∧ 0 ≤ Cal.dateM (dayOf a) ∧ Cal.dateM (dayOf a) ≤ 12 ∧ 0 ≤ Cal.dateD (dayOf a) ∧ Cal.dateD (dayOf a) ≤ 31 ∧
    0 ≤ secOf a / 3600 ∧ secOf a / 3600 ≤ 23 ∧ 0 ≤ secOf a / 60 % 60 ∧ secOf a / 60 % 60 ≤ 59 := by
  have hA := Cal.date_at (dayOf a)
  obtain ⟨i1, i2⟩ := hA.in_year
  have hl := Cal.lp_01 (Cal.dateY (dayOf a))
  have hd : -20000000 ≤ dayOf a ∧ dayOf a ≤ 20000000 := by unfold dayOf; omega
  have hs : 0 ≤ secOf a ∧ secOf a < 86400 := by unfold secOf; omega
  have hm := Cal.mlen_pos (Cal.dateY (dayOf a)) (Cal.dateM (dayOf a) - 1) hA.m0 hA.m1
  have m0 := hA.m0
  have m1 := hA.m1
  have d0 := hA.d0
  have d1 := hA.d1
  have hy : ∀ y : Int, -60000000 ≤ Cal.dby y → Cal.dby y ≤ 60000000 → -200000 ≤ y ∧ y ≤ 200000 := fun y h0 h1 => by unfold Cal.dby Cal.mar at *; omega
  obtain ⟨y0, y1⟩ := hy (Cal.dateY (dayOf a)) (by omega) (by omega)
  generalize secOf a = s at *
  refine ⟨y0, y1, by omega, by omega, by omega, by omega, by omega, by omega, by omega, by omega⟩

theorem modeL_le (m : Int) : (modeL m).length ≤ 20 := by
  unfold modeL
  rw [row2_len]
  decide

set_option maxHeartbeats 8000000 in
set_option maxRecDepth 100000 in
theorem line_any (e : Ent) (hb : e.Bd) (Q : ByteArray → ByteArray) (w : World) (ht : HasPow w) (hQ : QuoteC Q w) : Calls Tryd.prog 14 #[.agg #[.string e.nm, .int .u8 e.kd, .int .i64 e.md, .int .i64 e.ui, .int .i64 e.gi, .int .i64 e.sz, .int .i64 e.ts, .int .i64 e.tn, .string e.lk, .string e.us, .string e.gr, .int .i64 e.ma, .int .i64 e.mi, .string e.dt, .slice e.pa e.pn e.pc]] w fun x w' => x = .returned (.string (lineB e Q)) ∧ Ext w w' := by
  obtain ⟨bui, bgi, bsz, bma, bmi, bt0, bt1, bnm, blk, bus, bgr, bk0, bk1⟩ := hb
  obtain ⟨LB, hLB0⟩ : ∃ LB, LB = lineB e Q := ⟨_, rfl⟩
  have hLB := Lib.hid hLB0
  rw [← hLB0]
  clear hLB0
  obtain ⟨y0, y1, m0, m1, d0, d1, h0, h1, i0, i1⟩ := date_bd e.ts bt0 bt1
  have hx0 : Ext w (w.alloc (.cells #[.string e.nm, .int .u8 e.kd, .int .i64 e.md, .int .i64 e.ui, .int .i64 e.gi, .int .i64 e.sz, .int .i64 e.ts, .int .i64 e.tn, .string e.lk, .string e.us, .string e.gr, .int .i64 e.ma, .int .i64 e.mi, .string e.dt, .slice e.pa e.pn e.pc] 40)) := (Ext.refl w).alloc _
  have hA0 : EntAt (w.alloc (.cells #[.string e.nm, .int .u8 e.kd, .int .i64 e.md, .int .i64 e.ui, .int .i64 e.gi, .int .i64 e.sz, .int .i64 e.ts, .int .i64 e.tn, .string e.lk, .string e.us, .string e.gr, .int .i64 e.ma, .int .i64 e.mi, .string e.dt, .slice e.pa e.pn e.pc] 40)) w.heap.size e := by
    unfold EntAt
    simp
  have Csz := Lib.hid (fun w ht => itoa_any e.sz bsz.1 bsz.2 w ht)
  have Cma := Lib.hid (fun w ht => itoa_any e.ma bma.1 bma.2 w ht)
  have Cmi := Lib.hid (fun w ht => itoa_any e.mi bmi.1 bmi.2 w ht)
  have zsz := itoB_size bsz
  have zma := itoB_size bma
  have zmi := itoB_size bmi
  have hsv : Hid (sizeB e = if e.kd = 51 ∨ e.kd = 52 then itoB e.ma ++ ⟨#[44]⟩ ++ itoB e.mi else itoB e.sz) := Lib.hid rfl
  have zsv : (sizeB e).size ≤ 70 := by
    rw [hsv.out]
    split
    · rw [ByteArray.size_append, ByteArray.size_append]
      show _ + 1 + _ ≤ 70
      omega
    · omega
  have hit : Hid ((⟨(Lib.itoa e.sz).toArray⟩ : ByteArray) = itoB e.sz ∧ (⟨(Lib.itoa e.ma).toArray⟩ : ByteArray) = itoB e.ma ∧ (⟨(Lib.itoa e.mi).toArray⟩ : ByteArray) = itoB e.mi) := Lib.hid ⟨rfl, rfl, rfl⟩
  rw [hit.out.1] at Csz
  rw [hit.out.2.1] at Cma
  rw [hit.out.2.2] at Cmi
  generalize itoB e.sz = IS at *
  generalize itoB e.ma = IM at *
  generalize itoB e.mi = IN at *
  generalize hSZ : sizeB e = SZ at *
  have HSZ := Lib.hid hSZ
  clear hSZ hit
  go_enter Tryd.func14, Tryd.ntmps14
  go_wp2_with fail
  refine (Csz.out _ (ht.ext hx0)).mono ?_; rintro x w1 ⟨rfl, hx1⟩
  have hy1 := hx0.trans hx1
  have A1 := hA0.ext hx1
  clear hx1 hA0 hx0
  obtain ⟨c0, c1, c2, c3, c4, c5, c6, c7, c8, c9, c10, c11, c12, c13⟩ := A1
  have A1 := Lib.hid (show EntAt w1 w.heap.size e from ⟨c0, c1, c2, c3, c4, c5, c6, c7, c8, c9, c10, c11, c12, c13⟩)
  go_upto_region 2 with fail
  go_cut [18] (fun g wx => g = .bool (e.kd == 51 || e.kd == 52) ∧ wx = w1)
  case first =>
    as_aux_lemma =>
      cases q1 : (e.kd == 51)
      · cases q2 : (e.kd == 52)
        all_goals
          have Q1 := Lib.hid q1
          have Q2 := Lib.hid q2
          go_wp2_with fail
          go_meet
          exact ⟨by rw [Q1.out, Q2.out]; rfl, rfl⟩
      · have Q1 := Lib.hid q1
        go_wp2_with fail
        go_meet
        exact ⟨by rw [Q1.out]; rfl, rfl⟩
  case rest =>
    obtain ⟨rfl, hw9⟩ := hcut
    rw [hw9]
    clear hw9
    go_upto_if 18 with fail
    go_cut [3] (fun v wx => v = .string SZ ∧ Ext w1 wx)
    case first =>
      cases q : (e.kd == 51 || e.kd == 52) with
      | true =>
        as_aux_lemma =>
          have hz : SZ = IM ++ ⟨#[44]⟩ ++ IN := by
            rw [hsv.out, if_pos (by simpa using q)]
          clear q
          go_wp2_with fail
          refine wp_region_det (Stood _) (by kernel_rfl) (by kernel_rfl) (Stood.start _) ?_
          repeat (first
            | (refine det_skip (by rfl) ?_; simp only [Act.put, List.setIfInBounds_toArray, List.set_cons_zero, List.set_cons_succ])
            | (refine det_op (v := ?_) rfl (by rfl) (fun w' hS => ?_) ?_; rotate_left; (focus (obtain ⟨hcl, hxt⟩ := hS; go_wp2_with (first | ((with_reducible refine (Cma.out _ (ht.ext (hy1.trans hxt))).mono ?_); rintro e w1 ⟨rfl, hx1⟩) | ((with_reducible refine (Cmi.out _ (ht.ext (hy1.trans hxt))).mono ?_); rintro e w1 ⟨rfl, hx1⟩)); (first | refine ⟨?_, rfl, hcl, hxt⟩ | refine ⟨?_, rfl, Stood.of (hxt.trans (by assumption))⟩); (first | (simp only [List.getElem?_toArray, List.getElem?_cons_succ, List.getElem?_cons_zero]; rfl) | rfl))); simp only [Act.put, List.setIfInBounds_toArray, List.set_cons_zero, List.set_cons_succ]))
          refine det_end ?_
          intro w2 hS
          have hx2 := hS.2
          clear hS
          go_wp2_with fail
          go_meet
          exact ⟨by rw [hz], hx2⟩
      | false =>
        as_aux_lemma =>
          have hz : SZ = IS := by
            rw [hsv.out, if_neg (by simpa using q)]
          clear q
          go_wp2_with fail
          go_meet
          exact ⟨by rw [hz], Ext.refl _⟩
    case rest =>
      obtain ⟨rfl, hE2⟩ := hcut
      clear c0 c1 c2 c3 c4 c5 c6 c7 c8 c9 c10 c11 c12 c13 Csz Cma Cmi hsv zsz zma zmi
      have A2 := A1.out.ext hE2
      have hy2 := hy1.trans hE2
      obtain ⟨c0, c1, c2, c3, c4, c5, c6, c7, c8, c9, c10, c11, c12, c13⟩ := A2
      have A2 := Lib.hid (show EntAt wc w.heap.size e from ⟨c0, c1, c2, c3, c4, c5, c6, c7, c8, c9, c10, c11, c12, c13⟩)
      have CD := Lib.hid (fun w => date_any e.ts e.tn bt0 bt1 w)
      have hdv : Hid (dateVal e.ts = .agg #[.int .i64 (Cal.dateY (dayOf e.ts)), .int .i64 (Cal.dateM (dayOf e.ts)), .int .i64 (Cal.dateD (dayOf e.ts)), .int .i64 (secOf e.ts / 3600), .int .i64 (secOf e.ts / 60 % 60), .int .i64 (secOf e.ts % 60)]) := Lib.hid rfl
      rw [hdv.out] at CD
      have hdy : Hid (dayB e.ts = padInt (Cal.dateY (dayOf e.ts)) 4 ++ ⟨#[45]⟩ ++ padInt (Cal.dateM (dayOf e.ts)) 2 ++ ⟨#[45]⟩ ++ padInt (Cal.dateD (dayOf e.ts)) 2) := Lib.hid rfl
      have hck : Hid (clkB e.ts = padInt (secOf e.ts / 3600) 2 ++ ⟨#[58]⟩ ++ padInt (secOf e.ts / 60 % 60) 2) := Lib.hid rfl
      have hlv : Hid (LB = lineA (letB e.kd) ⟨(modeL e.md).toArray⟩ (orB e.us e.ui) (orB e.gr e.gi) (sizeB e) (dayB e.ts) (clkB e.ts) (Q e.nm) ++ lnkB e Q) := Lib.hid hLB.out
      rw [HSZ.out] at hlv
      generalize dayB e.ts = DY at *
      generalize clkB e.ts = CK at *
      generalize Cal.dateY (dayOf e.ts) = y at *
      generalize Cal.dateM (dayOf e.ts) = m at *
      generalize Cal.dateD (dayOf e.ts) = d at *
      generalize secOf e.ts / 3600 = h at *
      generalize secOf e.ts / 60 % 60 = i at *
      generalize secOf e.ts % 60 = s6 at *
      have Py := Lib.hid (show ∀ w, HasPow w → Calls Tryd.prog 34 #[.int .i64 y, .int .i64 4] w fun e w' => e = .returned (.string (padInt y 4)) ∧ Ext w w' from fun w ht => padded_any y 4 (by omega) (by omega) (by omega) (by omega) w ht)
      have Pm := Lib.hid (show ∀ w, HasPow w → Calls Tryd.prog 34 #[.int .i64 m, .int .i64 2] w fun e w' => e = .returned (.string (padInt m 2)) ∧ Ext w w' from fun w ht => padded_any m 2 (by omega) (by omega) (by omega) (by omega) w ht)
      have Pd := Lib.hid (show ∀ w, HasPow w → Calls Tryd.prog 34 #[.int .i64 d, .int .i64 2] w fun e w' => e = .returned (.string (padInt d 2)) ∧ Ext w w' from fun w ht => padded_any d 2 (by omega) (by omega) (by omega) (by omega) w ht)
      have Ph := Lib.hid (show ∀ w, HasPow w → Calls Tryd.prog 34 #[.int .i64 h, .int .i64 2] w fun e w' => e = .returned (.string (padInt h 2)) ∧ Ext w w' from fun w ht => padded_any h 2 (by omega) (by omega) (by omega) (by omega) w ht)
      have Pi := Lib.hid (show ∀ w, HasPow w → Calls Tryd.prog 34 #[.int .i64 i, .int .i64 2] w fun e w' => e = .returned (.string (padInt i 2)) ∧ Ext w w' from fun w ht => padded_any i 2 (by omega) (by omega) (by omega) (by omega) w ht)
      have zy := padInt_size (n := y) (d := 4) (by omega) (by omega) (by omega)
      have zm := padInt_size (n := m) (d := 2) (by omega) (by omega) (by omega)
      have zd := padInt_size (n := d) (d := 2) (by omega) (by omega) (by omega)
      have zh := padInt_size (n := h) (d := 2) (by omega) (by omega) (by omega)
      have zi := padInt_size (n := i) (d := 2) (by omega) (by omega) (by omega)
      generalize padInt y 4 = py at *
      generalize padInt m 2 = pm at *
      generalize padInt d 2 = pd at *
      generalize padInt h 2 = ph at *
      generalize padInt i 2 = pi at *
      clear y0 y1 m0 m1 d0 d1 h0 h1 i0 i1 hdv
      go_wp2_with fail
      refine (CD.out _).mono ?_; rintro x w3 ⟨rfl, hx3⟩
      have hy3 := hy2.trans hx3
      have A3 := A2.out.ext hx3
      clear c0 c1 c2 c3 c4 c5 c6 c7 c8 c9 c10 c11 c12 c13 hx3 hy2
      go_upto_region 5 with fail
      have hx4 : Ext w3 (w3.alloc (.cells #[.int .i64 y, .int .i64 m, .int .i64 d, .int .i64 h, .int .i64 i, .int .i64 s6] 76)) := (Ext.refl w3).alloc _
      have f0 : (w3.alloc (.cells #[.int .i64 y, .int .i64 m, .int .i64 d, .int .i64 h, .int .i64 i, .int .i64 s6] 76)).cell? ⟨w3.heap.size, 0, none⟩ = some (.int .i64 y) := by simp
      have f1 : (w3.alloc (.cells #[.int .i64 y, .int .i64 m, .int .i64 d, .int .i64 h, .int .i64 i, .int .i64 s6] 76)).cell? ⟨w3.heap.size, 1, none⟩ = some (.int .i64 m) := by simp
      have f2 : (w3.alloc (.cells #[.int .i64 y, .int .i64 m, .int .i64 d, .int .i64 h, .int .i64 i, .int .i64 s6] 76)).cell? ⟨w3.heap.size, 2, none⟩ = some (.int .i64 d) := by simp
      have f3 : (w3.alloc (.cells #[.int .i64 y, .int .i64 m, .int .i64 d, .int .i64 h, .int .i64 i, .int .i64 s6] 76)).cell? ⟨w3.heap.size, 3, none⟩ = some (.int .i64 h) := by simp
      have f4 : (w3.alloc (.cells #[.int .i64 y, .int .i64 m, .int .i64 d, .int .i64 h, .int .i64 i, .int .i64 s6] 76)).cell? ⟨w3.heap.size, 4, none⟩ = some (.int .i64 i) := by simp
      have fl : w3.heap.size < (w3.alloc (.cells #[.int .i64 y, .int .i64 m, .int .i64 d, .int .i64 h, .int .i64 i, .int .i64 s6] 76)).heap.size := by simp
      have A4 := A3.ext hx4
      have hy4 := hy3.trans hx4
      generalize w3.alloc (.cells #[.int .i64 y, .int .i64 m, .int .i64 d, .int .i64 h, .int .i64 i, .int .i64 s6] 76) = W4 at *
      clear A3 hy3 hx4
      go_cut [5] (fun v wx => v = .string DY ∧ Ext W4 wx)
      case first =>
        as_aux_lemma =>
          refine wp_region_det (Stood _) (by kernel_rfl) (by kernel_rfl) (Stood.start _) ?_
          repeat (first
            | (refine det_skip (by rfl) ?_; simp only [Act.put, List.setIfInBounds_toArray, List.set_cons_zero, List.set_cons_succ])
            | (refine det_op (v := ?_) rfl (by rfl) (fun w' hS => ?_) ?_; rotate_left; (focus (obtain ⟨hcl, hxt⟩ := hS; go_wp2_with (first | ((with_reducible refine (Py.out _ (ht.ext (hy4.trans hxt))).mono ?_); rintro e w1 ⟨rfl, hx1⟩) | ((with_reducible refine (Pm.out _ (ht.ext (hy4.trans hxt))).mono ?_); rintro e w1 ⟨rfl, hx1⟩) | ((with_reducible refine (Pd.out _ (ht.ext (hy4.trans hxt))).mono ?_); rintro e w1 ⟨rfl, hx1⟩)); (first | refine ⟨?_, rfl, hcl, hxt⟩ | refine ⟨?_, rfl, Stood.of (hxt.trans (by assumption))⟩); (first | (simp only [List.getElem?_toArray, List.getElem?_cons_succ, List.getElem?_cons_zero]; rfl) | rfl))); simp only [Act.put, List.setIfInBounds_toArray, List.set_cons_zero, List.set_cons_succ]))
          refine det_end ?_
          intro w5 hS
          have hx5 := hS.2
          clear hS
          go_wp2_with fail
          go_meet
          exact ⟨by rw [hdy.out], hx5⟩
      case rest =>
        obtain ⟨rfl, hE5⟩ := hcut
        have g3 := hE5.cell f3
        have g4 := hE5.cell f4
        have gl : w3.heap.size < wc.heap.size := World.block_lt_of_cell? wc _ g3
        have A5 := A4.ext hE5
        have hy5 := hy4.trans hE5
        clear f0 f1 f2 f3 f4 fl A4 hE5 hy4 Py Pm Pd
        have zDY : DY.size ≤ 200 := by
          rw [hdy.out, ByteArray.size_append, ByteArray.size_append, ByteArray.size_append, ByteArray.size_append]
          show _ + 1 + _ + 1 + _ ≤ 200
          omega
        have zCK : CK.size ≤ 200 := by
          rw [hck.out, ByteArray.size_append, ByteArray.size_append]
          show _ + 1 + _ ≤ 200
          omega
        obtain ⟨W5, hW5⟩ : ∃ W5, W5 = wc := ⟨_, rfl⟩
        rw [← hW5] at g3 g4 gl A5 hy5
        rw [← hW5]
        clear hW5
        go_upto_region 6 with fail
        go_cut [6] (fun v wx => v = .string CK ∧ Ext W5 wx)
        case first =>
          as_aux_lemma =>
            refine wp_region_det (Stood _) (by kernel_rfl) (by kernel_rfl) (Stood.start _) ?_
            repeat (first
              | (refine det_skip (by rfl) ?_; simp only [Act.put, List.setIfInBounds_toArray, List.set_cons_zero, List.set_cons_succ])
              | (refine det_op (v := ?_) rfl (by rfl) (fun w' hS => ?_) ?_; rotate_left; (focus (obtain ⟨hcl, hxt⟩ := hS; go_wp2_with (first | ((with_reducible refine (Ph.out _ (ht.ext (hy5.trans hxt))).mono ?_); rintro e w1 ⟨rfl, hx1⟩) | ((with_reducible refine (Pi.out _ (ht.ext (hy5.trans hxt))).mono ?_); rintro e w1 ⟨rfl, hx1⟩)); (first | refine ⟨?_, rfl, hcl, hxt⟩ | refine ⟨?_, rfl, Stood.of (hxt.trans (by assumption))⟩); (first | (simp only [List.getElem?_toArray, List.getElem?_cons_succ, List.getElem?_cons_zero]; rfl) | rfl))); simp only [Act.put, List.setIfInBounds_toArray, List.set_cons_zero, List.set_cons_succ]))
            refine det_end ?_
            intro w6 hS
            have hx6 := hS.2
            clear hS
            go_wp2_with fail
            go_meet
            exact ⟨by rw [hck.out], hx6⟩
        case rest =>
          obtain ⟨rfl, hE6⟩ := hcut
          have A6 := A5.ext hE6
          have hy6 := hy5.trans hE6
          clear g3 g4 gl A5 hE6 hy5 Ph Pi
          obtain ⟨W6, hW6⟩ : ∃ W6, W6 = wc := ⟨_, rfl⟩
          rw [← hW6] at A6 hy6
          rw [← hW6]
          clear hW6
          obtain ⟨c0, c1, c2, c3, c4, c5, c6, c7, c8, c9, c10, c11, c12, c13⟩ := A6
          have A6 := Lib.hid (show EntAt W6 w.heap.size e from ⟨c0, c1, c2, c3, c4, c5, c6, c7, c8, c9, c10, c11, c12, c13⟩)
          have CL := Lib.hid (fun w => letter_any e.kd bk0 bk1 w)
          have CM := Lib.hid (fun w => modeText_any e.md w)
          have CU := Lib.hid (fun w ht => or_any e.us e.ui bui.1 bui.2 w ht)
          have CG := Lib.hid (fun w ht => or_any e.gr e.gi bgi.1 bgi.2 w ht)
          obtain ⟨zq, cq⟩ := hQ e.nm bnm
          have CQ := Lib.hid cq
          have zl := letB_size e.kd
          have zo : ∀ (s : ByteArray) (n : Int), s.size ≤ 700 → Fits64 n → (orB s n).size ≤ 700 := fun s n hs hn => by
            unfold orB
            split
            · have := itoB_size hn
              unfold itoB at this
              omega
            · exact hs
          have zu := zo e.us e.ui bus bui
          have zg := zo e.gr e.gi bgr bgi
          have zmd : (⟨(modeL e.md).toArray⟩ : ByteArray).size ≤ 20 := by
            show (modeL e.md).toArray.size ≤ 20
            rw [List.size_toArray]
            exact modeL_le e.md
          generalize letB e.kd = LT at *
          generalize (⟨(modeL e.md).toArray⟩ : ByteArray) = MD at *
          generalize orB e.us e.ui = US at *
          generalize orB e.gr e.gi = GR at *
          generalize hqn : Q e.nm = QN at *
          clear zo cq hqn
          obtain ⟨LA, hLA⟩ : ∃ LA, LA = lineA LT MD US GR SZ DY CK QN := ⟨_, rfl⟩
          have hla : Hid (LA = LT ++ MD ++ ⟨#[32]⟩ ++ US ++ ⟨#[47]⟩ ++ GR ++ ⟨#[32]⟩ ++ SZ ++ ⟨#[32]⟩ ++ DY ++ ⟨#[32]⟩ ++ CK ++ ⟨#[32]⟩ ++ QN) := Lib.hid (by rw [hLA]; rfl)
          rw [← hLA] at hlv
          have zLA : LA.size ≤ 10000 := by
            rw [hla.out]
            simp only [ByteArray.size_append]
            show _ + _ + 1 + _ + 1 + _ + 1 + _ + 1 + _ + 1 + _ + 1 + _ ≤ 10000
            omega
          clear hLA
          go_upto_region 7 with fail
          go_cut [7] (fun v wx => v = .string LA ∧ Ext W6 wx)
          case first =>
            as_aux_lemma =>
              go_wp2_with fail
              refine wp_region_det (Stood _) (by kernel_rfl) (by kernel_rfl) (Stood.start _) ?_
              repeat (first
                | (refine det_skip (by rfl) ?_; simp only [Act.put, List.setIfInBounds_toArray, List.set_cons_zero, List.set_cons_succ])
                | (refine det_op (v := ?_) rfl (by rfl) (fun w' hS => ?_) ?_; rotate_left; (focus (obtain ⟨hcl, hxt⟩ := hS; go_wp2_with (first | ((with_reducible refine (CL.out _).mono ?_); rintro e w1 ⟨rfl, hx1⟩) | ((with_reducible refine (CM.out _).mono ?_); rintro e w1 ⟨rfl, hx1⟩) | ((with_reducible refine (CU.out _ (ht.ext (hy6.trans hxt))).mono ?_); rintro e w1 ⟨rfl, hx1⟩) | ((with_reducible refine (CG.out _ (ht.ext (hy6.trans hxt))).mono ?_); rintro e w1 ⟨rfl, hx1⟩) | ((with_reducible refine (CQ.out _ (hy6.trans hxt)).mono ?_); rintro e w1 ⟨rfl, hx1⟩)); (first | refine ⟨?_, rfl, hcl, hxt⟩ | refine ⟨?_, rfl, Stood.of (hxt.trans (by assumption))⟩); (first | (simp only [List.getElem?_toArray, List.getElem?_cons_succ, List.getElem?_cons_zero]; rfl) | rfl))); simp only [Act.put, List.setIfInBounds_toArray, List.set_cons_zero, List.set_cons_succ]))
              refine det_end ?_
              intro w7 hS
              have hx7 := hS.2
              clear hS
              go_wp2_with fail
              go_meet
              exact ⟨by rw [hla.out], hx7⟩
          case rest =>
            obtain ⟨rfl, hE7⟩ := hcut
            have A7 := A6.out.ext hE7
            have hy7 := hy6.trans hE7
            clear c0 c1 c2 c3 c4 c5 c6 c7 c8 c9 c10 c11 c12 c13 A6 hE7 hy6 CL CM CU CG CQ
            obtain ⟨c0, c1, c2, c3, c4, c5, c6, c7, c8, c9, c10, c11, c12, c13⟩ := A7
            obtain ⟨zl2, cl2⟩ := hQ e.lk blk
            have CK2 := Lib.hid (cl2 _ hy7)
            have hlk : Hid (lnkB e Q = if e.kd = 49 then ⟨#[32, 105, 115, 32]⟩ ++ Q e.lk else if e.kd = 50 then ⟨#[32, 45, 62, 32]⟩ ++ Q e.lk else ⟨#[]⟩) := Lib.hid rfl
            generalize Q e.lk = QL at *
            clear cl2 hQ
            by_cases h49 : e.kd = 49
            · as_aux_lemma =>
                have q1 : (e.kd == 49) = true := by simpa using h49
                have hz : Hid (LB = LA ++ (⟨#[32, 105, 115, 32]⟩ ++ QL)) := Lib.hid (by rw [hlv.out, hlk.out, if_pos h49])
                clear h49
                go_wp2_with fail
                refine CK2.out.mono ?_; rintro x w8 ⟨rfl, hx8⟩
                go_wp2_with fail
                go_ret
                exact ⟨ret_val (by rw [hz.out] <;> rfl), hy7.trans hx8⟩
            · by_cases h50 : e.kd = 50
              · as_aux_lemma =>
                  have q1 : (e.kd == 49) = false := by simpa using h49
                  have q2 : (e.kd == 50) = true := by simpa using h50
                  have hz : Hid (LB = LA ++ (⟨#[32, 45, 62, 32]⟩ ++ QL)) := Lib.hid (by rw [hlv.out, hlk.out, if_neg h49, if_pos h50])
                  clear h49 h50
                  go_wp2_with fail
                  refine CK2.out.mono ?_; rintro x w8 ⟨rfl, hx8⟩
                  go_wp2_with fail
                  go_ret
                  exact ⟨ret_val (by rw [hz.out] <;> rfl), hy7.trans hx8⟩
              · as_aux_lemma =>
                  have q1 : (e.kd == 49) = false := by simpa using h49
                  have q2 : (e.kd == 50) = false := by simpa using h50
                  have hz : Hid (LB = LA) := Lib.hid (by rw [hlv.out, hlk.out, if_neg h49, if_neg h50]; exact b_eq (by simp [ByteArray.data_append]))
                  clear h49 h50
                  go_wp2_with fail
                  go_ret
                  exact ⟨ret_val (by rw [hz.out] <;> rfl), hy7⟩
end Go.Proofs.YtbofobakphlpbaaDoor
