/-
  stream.Write: its walk. No conditions but the arguments' bounds.
-/
import Derived.Test.YtnbcbipigiopbaaGreatDoorPkP
import Derived.Test.YtnbcbipigiopbaaGreatDoorPkQ
import Derived.Test.YtnbcbipigiopbaaGreatDoorPkN
import Derived.Test.YtnbcbipigiopbaaGreatDoorPkH
import Derived.Test.YtnbcbipigiopbaaGreatDoorFis
namespace Go.Proofs.YtnbcbipigiopbaaGreatDoor
open Go.RowKit Go.WideShapes

theorem isAt_new (w : World) (k p : Int) : IsAt (w.alloc (.cells #[.int .i64 k, .int .i64 p] 67)) w.heap.size k p := ⟨by simp, by simp⟩
theorem wrV_le (m : Nat) (K X : Nat → ByteArray) : (wrV m K X).size ≤ 6180 := by
  by_cases h20 : 20 < m
  · rw [(wr_many K X h20).1]
    decide
  · unfold wrV
    rw [if_neg h20]
    split
    · decide
    · rename_i hb
      have h3 := catR_size (K := K) (X := X) m (fun j hj => by
        cases hp : pairB (K j) (X j) with
        | true => rfl
        | false =>
          exfalso
          apply hb
          unfold badR
          rw [List.find?_isSome]
          exact ⟨j, by simpa using hj, by rw [hp]; rfl⟩)
      have : m * 206 ≤ 20 * 206 := Nat.mul_le_mul (by omega) (Nat.le_refl _)
      omega
theorem rep_end (w : World) : Calls Tryz.prog 24 #[.string ⟨#[0]⟩, .int .i64 1024] w fun e w' => e = .returned (.string endB) ∧ Ext w w' := Tryz.strings_Repeat ⟨#[0]⟩ 1024 w (by omega) (by decide)
theorem tell_is {v : Value} {k pl : Int} (w : World) (hg : HasHandle w) (h : IsErr w v k pl) (hk : k ≠ 0) : Calls Tryz.prog 27 #[v] w fun e w' => e = .returned (.int .i64 k) ∧ Ext w w' := by
  rcases h with ⟨_, rfl⟩ | ⟨b, rfl, ha⟩
  · rw [errOf_ne hk]
    exact tell_errno k w hg
  · exact tell_at k pl b w hg ha
theorem isErr_iface {w : World} {v : Value} {k pl : Int} (h : IsErr w v k pl) (hk : k ≠ 0) : ∃ t x, v = .iface t x := by
  rcases h with ⟨_, rfl⟩ | ⟨b, rfl, _⟩
  · exact ⟨_, _, errOf_ne hk⟩
  · exact ⟨_, _, rfl⟩
theorem isPairs_open {w : World} {v : Value} {n : Nat} {K X : Nat → ByteArray} (h : IsPairs w v n K X) : ∃ a c, v = .slice a n c := by
  rcases h with ⟨⟨a, c, rfl⟩, rfl⟩ | ⟨b, off, cap, rfl, _⟩
  · exact ⟨_, _, rfl⟩
  · exact ⟨_, _, rfl⟩
theorem isEnts_open {w : World} {v : Value} {n : Nat} {E : Nat → Ent} (h : IsEnts w v n E) : ∃ a c, v = .slice a n c := by
  rcases h with ⟨⟨a, c, rfl⟩, rfl⟩ | ⟨b, off, cap, rfl, _⟩
  · exact ⟨_, _, rfl⟩
  · exact ⟨_, _, rfl⟩
theorem isEnts_at {w : World} {a : Option Addr} {c n m : Nat} {E : Nat → Ent} (h : IsEnts w (.slice a m c) n E) {j : Nat} (hj : j < n) : ∃ b off, a = some ⟨b, off, none⟩ ∧ n ≤ 8796093022200 ∧ (E j).Ok ∧ ∀ i, i < 15 → w.cell? ⟨b, off + j * 15 + i, none⟩ = (E j).cells[i]? := by
  rcases h with ⟨_, rfl⟩ | ⟨b, off, cap, hv, hn, hc⟩
  · omega
  · simp only [Value.slice.injEq] at hv
    exact ⟨b, off, hv.1, hn, hc j hj⟩
/-- A text and an error with its place come back. -/
def GivesTep (R : Tep) (w : World) (x : Ending) (w' : World) : Prop := ∃ v, x = .returned (.tuple #[.string R.v, v]) ∧ IsErr w' v R.e R.p ∧ Ext w w'

set_option maxHeartbeats 8000000 in
set_option maxRecDepth 100000 in
theorem streamWrite_any (d : Int) (w : World) (v1 v2 : Value) (n m : Nat) (E : Nat → Ent) (K X : Nat → ByteArray) (T : Nat → ByteArray) (KE : Nat → Int) (hE2 : IsEnts w v2 n E) (hn : n ≤ 45) (hP : IsPairs w v1 m K X) (hS : Short m K X) (hm30 : m ≤ 30)
    (hT : ∀ k, k < n → (T k).size ≤ 20000) (D : ∀ k, k < n → ∀ W, Ext w W → Calls Tryz.prog 18 #[.int .i64 d, .agg #[.string (E k).nm, .int .u8 (E k).kd, .int .i64 (E k).md, .int .i64 (E k).ui, .int .i64 (E k).gi, .int .i64 (E k).sz, .int .i64 (E k).ts, .int .i64 (E k).tn, .string (E k).lk, .string (E k).us, .string (E k).gr, .int .i64 (E k).ma, .int .i64 (E k).mi, .string (E k).dt, .slice (E k).pa (E k).pn (E k).pc]] W fun x w' => x = .returned (.tuple #[.string (T k), errOf (KE k)]) ∧ Ext W w')
    (h : ByteArray) (hh : h.size = 512) (G : ∀ w, HasMax w → Calls Tryz.prog 28 #[.string (wrV m K X)] w fun e w' => e = .returned (.tuple #[.string (wrnV 0 h (wrV m K X)), .nilIface]) ∧ Ext w w')
    (hg : HasHandle w) (hm : HasMax w) (ht : HasPow w) :
    Calls Tryz.prog 12 #[.int .i64 d, v1, v2] w (GivesTep (streamV d n m (wrE m K X) (wrnV 0 h (wrV m K X)) T KE) w) := by
  obtain ⟨a1, c1, rfl⟩ := isPairs_open hP
  obtain ⟨a2, c2, rfl⟩ := isEnts_open hE2
  have CP := Lib.hid (fun W (hE : Ext w W) => paxWrite_n W _ m K X (hP.ext hE) hS (ht.ext hE))
  have hwz : (wrV m K X).size ≤ 6180 := wrV_le m K X
  have hgz := wrnV_size (k := 0) (h := h) (bs := wrV m K X) (fun _ => hh)
  have hgz' : (wrnV 0 h (wrV m K X)).size ≤ 8000 := by omega
  have HG := Lib.hid G
  have HE2 := Lib.hid hE2
  have HD := Lib.hid D
  have CR := Lib.hid (fun w => rep_end w)
  have hez : endB.size ≤ 1024 := Nat.le_of_eq endB_size
  clear hE2 D G hP hS hgz hwz hh
  generalize wrnV 0 h (wrV m K X) = GH at *
  generalize wrV m K X = WV at *
  generalize wrE m K X = WE at *
  generalize wrP m K X = WP at *
  obtain ⟨R, hR⟩ : ∃ R, R = streamV d n m WE GH T KE := ⟨_, rfl⟩
  rw [← hR]
  by_cases h40 : 40 < n
  · have e1 : R = ⟨⟨#[]⟩, 4, -1⟩ := by rw [hR]; exact if_pos h40
    subst e1
    have q : decide ((40 : Int) < (n : Int)) = true := decide_eq_true (by omega)
    clear hR
    go_enter Tryz.func12, Tryz.ntmps12
    go_wp2_with fail
    go_ret2
    exact ⟨_, rfl, .inl ⟨rfl, rfl⟩, (by show Below _ _ _; repeat' (first | (with_reducible exact Below.refl _ _) | (with_reducible assumption) | (with_reducible refine belowDrewN ?_ _) | (with_reducible refine Below.alloc ?_ ?_ _) | (with_reducible refine Below.drew ?_) | (with_reducible refine Below.setCell ?_ ?_ _) | go_size))⟩
  · have q40 : decide ((40 : Int) < (n : Int)) = false := decide_eq_false (by omega)
    unfold streamV at hR
    rw [if_neg h40] at hR
    by_cases hmd : 0 < m ∧ d ≠ 4
    · rw [if_pos hmd] at hR
      subst hR
      have q1 : decide ((0 : Int) < (m : Int)) = true := decide_eq_true (by omega)
      have q2 : (d != 4) = true := by simpa using hmd.2
      have q1n : 0 < m := hmd.1
      clear hmd
      go_enter Tryz.func12, Tryz.ntmps12
      go_wp2_with fail
      go_ret2
      exact ⟨_, rfl, .inl ⟨rfl, rfl⟩, (by show Below _ _ _; repeat' (first | (with_reducible exact Below.refl _ _) | (with_reducible assumption) | (with_reducible refine belowDrewN ?_ _) | (with_reducible refine Below.alloc ?_ ?_ _) | (with_reducible refine Below.drew ?_) | (with_reducible refine Below.setCell ?_ ?_ _) | go_size))⟩
    · rw [if_neg hmd] at hR
      have HR := Lib.hid hR
      have Hmd := Lib.hid hmd
      clear hR hmd
      go_enter Tryz.func12, Tryz.ntmps12
      go_upto_region 3 with fail
      go_cut [25] (fun s wx => s = .bool false ∧ wx = w)
      case first =>
        by_cases hm0 : m = 0
        · have q1 : decide ((0 : Int) < (m : Int)) = false := decide_eq_false (by omega)
          go_wp2_with fail
          go_meet
          exact ⟨rfl, rfl⟩
        · have q1 : decide ((0 : Int) < (m : Int)) = true := decide_eq_true (by omega)
          have q1n : 0 < m := by omega
          have q2 : (d != 4) = false := by
            have : d = 4 := Classical.byContradiction fun hd => Hmd.out ⟨by omega, hd⟩
            rw [this]; rfl
          go_wp2_with fail
          go_meet
          exact ⟨rfl, rfl⟩
      case rest =>
        obtain ⟨rfl, hw9⟩ := hcut
        rw [hw9]
        clear hw9 Hmd
        go_wp2_with fail
        refine (CP.out _ (Ext.refl _)).mono ?_; rintro x w1 ⟨ve, rfl, hEr, hN, hx1⟩
        by_cases hw : WE = 0
        · obtain rfl := hN hw
          have HR2 : Hid (R = loopV T KE n (if 0 < m ∧ 0 < n then GH else ⟨#[]⟩)) := Lib.hid (by rw [HR.out, if_neg (by rw [hw]; simp)])
          obtain ⟨O, hO⟩ : ∃ O, O = if 0 < m ∧ 0 < n then GH else (⟨#[]⟩ : ByteArray) := ⟨_, rfl⟩
          have HO := Lib.hid hO
          rw [← hO] at HR2
          have hOz : O.size ≤ 8000 := by
            rw [hO]
            split
            · exact hgz'
            · show 0 ≤ _
              omega
          have hcz : ∀ k, k ≤ n → (catF T O k).size ≤ 1000000 := fun k hk => by
            have := catF_size (o := O) hT k hk
            omega
          have Hcz := Lib.hid hcz
          clear HR hEr hN CP hO hw hcz hT
          go_upto_region 9 with fail
          go_cut [44] (fun s wx => s = .bool (decide (0 < m) && decide (0 < n)) ∧ wx = w1)
          case first =>
            by_cases hm0 : m = 0
            · have q1 : decide ((0 : Int) < (m : Int)) = false := decide_eq_false (by omega)
              have q3 : decide (0 < m) = false := decide_eq_false (by omega)
              go_wp2_with fail
              go_meet
              exact ⟨by rw [q3]; rfl, rfl⟩
            · have q1 : decide ((0 : Int) < (m : Int)) = true := decide_eq_true (by omega)
              have q3 : decide (0 < m) = true := decide_eq_true (by omega)
              by_cases hn0 : n = 0
              · have q2 : decide ((0 : Int) < (n : Int)) = false := decide_eq_false (by omega)
                have q4 : decide (0 < n) = false := decide_eq_false (by omega)
                go_wp2_with fail
                go_meet
                exact ⟨by rw [q3, q4]; rfl, rfl⟩
              · have q2 : decide ((0 : Int) < (n : Int)) = true := decide_eq_true (by omega)
                have q4 : decide (0 < n) = true := decide_eq_true (by omega)
                go_wp2_with fail
                go_meet
                exact ⟨by rw [q3, q4]; rfl, rfl⟩
          case rest =>
            obtain ⟨rfl, hw9⟩ := hcut
            rw [hw9]
            clear hw9
            go_upto_if 44 with fail
            go_cut [10, 9] (fun o e9 wx => o = .string O ∧ Ext w wx)
            case first =>
              cases hb : (decide (0 < m) && decide (0 < n)) with
              | true =>
                have hc : 0 < m ∧ 0 < n := by simpa using hb
                go_wp2_with fail
                refine (HG.out _ (hm.ext hx1)).mono ?_; rintro x w2 ⟨rfl, hx2⟩
                go_wp2_with fail
                go_meet
                exact ⟨by rw [HO.out, if_pos hc], hx1.trans hx2⟩
              | false =>
                have hc : ¬ (0 < m ∧ 0 < n) := fun h => by
                  rw [decide_eq_true h.1, decide_eq_true h.2] at hb
                  cases hb
                go_wp2_with fail
                go_meet
                exact ⟨by rw [HO.out, if_neg hc], hx1⟩
            case rest =>
              obtain ⟨rfl, hx2⟩ := hcut
              clear HG HO
              go_wp2_with fail
              go_loopw [10, 57] (fun o i wr => ∃ j : Nat, j ≤ n ∧ (∀ k, k < j → KE k = 0) ∧ o = .string (catF T O j) ∧ i = .int .i64 (j : Int) ∧ Ext w wr) (fun _ i _ => n - (intOf i).toNat)
              case atStart => exact ⟨0, Nat.zero_le _, (fun k hk => absurd hk (Nat.not_lt_zero _)), rfl, rfl, hx2⟩
              case round =>
                obtain ⟨j, hj, hz, rfl, rfl, hEw⟩ := hrel
                have hzj := Hcz.out j hj
                have HZ := Lib.hid hz
                clear hz
                by_cases hlt : j < n
                · obtain ⟨b, off, rfl, hn2, ok, hg'⟩ := isEnts_at HE2.out hlt
                  have hg := hg'
                  have g0 : wr.cell? ⟨b, off + j * 15, none⟩ = some (.string (E j).nm) := hEw.cell (hg 0 (by omega))
                  have g1 : wr.cell? ⟨b, off + j * 15 + 1, none⟩ = some (.int .u8 (E j).kd) := hEw.cell (hg 1 (by omega))
                  have g2 : wr.cell? ⟨b, off + j * 15 + 2, none⟩ = some (.int .i64 (E j).md) := hEw.cell (hg 2 (by omega))
                  have g3 : wr.cell? ⟨b, off + j * 15 + 3, none⟩ = some (.int .i64 (E j).ui) := hEw.cell (hg 3 (by omega))
                  have g4 : wr.cell? ⟨b, off + j * 15 + 4, none⟩ = some (.int .i64 (E j).gi) := hEw.cell (hg 4 (by omega))
                  have g5 : wr.cell? ⟨b, off + j * 15 + 5, none⟩ = some (.int .i64 (E j).sz) := hEw.cell (hg 5 (by omega))
                  have g6 : wr.cell? ⟨b, off + j * 15 + 6, none⟩ = some (.int .i64 (E j).ts) := hEw.cell (hg 6 (by omega))
                  have g7 : wr.cell? ⟨b, off + j * 15 + 7, none⟩ = some (.int .i64 (E j).tn) := hEw.cell (hg 7 (by omega))
                  have g8 : wr.cell? ⟨b, off + j * 15 + 8, none⟩ = some (.string (E j).lk) := hEw.cell (hg 8 (by omega))
                  have g9 : wr.cell? ⟨b, off + j * 15 + 9, none⟩ = some (.string (E j).us) := hEw.cell (hg 9 (by omega))
                  have g10 : wr.cell? ⟨b, off + j * 15 + 10, none⟩ = some (.string (E j).gr) := hEw.cell (hg 10 (by omega))
                  have g11 : wr.cell? ⟨b, off + j * 15 + 11, none⟩ = some (.int .i64 (E j).ma) := hEw.cell (hg 11 (by omega))
                  have g12 : wr.cell? ⟨b, off + j * 15 + 12, none⟩ = some (.int .i64 (E j).mi) := hEw.cell (hg 12 (by omega))
                  have g13 : wr.cell? ⟨b, off + j * 15 + 13, none⟩ = some (.string (E j).dt) := hEw.cell (hg 13 (by omega))
                  have g14 : wr.cell? ⟨b, off + j * 15 + 14, none⟩ = some (.slice (E j).pa (E j).pn (E j).pc) := hEw.cell (hg 14 (by omega))
                  have hpn := ok.pn
                  have CD := Lib.hid (fun W (hW : Ext w W) => HD.out j hlt W hW)
                  have hz2 := Hcz.out (j + 1) (by omega)
                  have hca : Hid (catF T O (j + 1) = catF T O j ++ T j) := Lib.hid rfl
                  rw [hca.out, ByteArray.size_append] at hz2
                  clear hg hg' HD
                  have hwa : Ext w (wr.alloc (.cells #[.string (E j).nm, .int .u8 (E j).kd, .int .i64 (E j).md, .int .i64 (E j).ui, .int .i64 (E j).gi, .int .i64 (E j).sz, .int .i64 (E j).ts, .int .i64 (E j).tn, .string (E j).lk, .string (E j).us, .string (E j).gr, .int .i64 (E j).ma, .int .i64 (E j).mi, .string (E j).dt, .slice (E j).pa (E j).pn (E j).pc] 26)) := hEw.alloc _
                  have hwb : Ext (wr.alloc (.cells #[.string (E j).nm, .int .u8 (E j).kd, .int .i64 (E j).md, .int .i64 (E j).ui, .int .i64 (E j).gi, .int .i64 (E j).sz, .int .i64 (E j).ts, .int .i64 (E j).tn, .string (E j).lk, .string (E j).us, .string (E j).gr, .int .i64 (E j).ma, .int .i64 (E j).mi, .string (E j).dt, .slice (E j).pa (E j).pn (E j).pc] 26)) (wr.alloc (.cells #[.string (E j).nm, .int .u8 (E j).kd, .int .i64 (E j).md, .int .i64 (E j).ui, .int .i64 (E j).gi, .int .i64 (E j).sz, .int .i64 (E j).ts, .int .i64 (E j).tn, .string (E j).lk, .string (E j).us, .string (E j).gr, .int .i64 (E j).ma, .int .i64 (E j).mi, .string (E j).dt, .slice (E j).pa (E j).pn (E j).pc] 26)) := Ext.refl _
                  go_wp2_with fail
                  refine (CD.out _ hwa).mono ?_; rintro x w3 ⟨rfl, hx3⟩
                  clear g0 g1 g2 g3 g4 g5 g6 g7 g8 g9 g10 g11 g12 g13 g14
                  by_cases hk : KE j = 0
                  · have hzz : Hid (∀ k, k < j + 1 → KE k = 0) := Lib.hid (fun k hk' => by
                      rcases Nat.lt_succ_iff_lt_or_eq.1 hk' with h1 | rfl
                      · exact HZ.out k h1
                      · exact hk)
                    rw [hk, show errOf 0 = .nilIface from rfl]
                    clear hk CD
                    go_wp2_with fail
                    go_roundw
                    case rel => exact ⟨j + 1, hlt, hzz.out, by rw [hca.out], by go_num, hwa.trans hx3⟩
                    case measure => simp [intOf]; omega
                  · have HRj : Hid (R = ⟨⟨#[]⟩, KE j, (j : Int)⟩) := Lib.hid (by rw [HR2.out, loopV_hit hlt HZ.out hk])
                    have hw3 := hwa.trans hx3
                    have CE := Lib.hid (fun w (hg : HasHandle w) => tell_errno (KE j) w hg)
                    rw [errOf_ne hk]
                    clear CD
                    go_wp2_with fail
                    refine (CE.out _ (hg.ext hw3)).mono ?_; rintro x w4 ⟨rfl, hx4⟩
                    go_wp2_with fail
                    go_ret2
                    exact ⟨_, by rw [HRj.out]; rfl, .inr ⟨_, rfl, by rw [HRj.out]; exact isAt_new w4 _ _⟩, (hw3.trans hx4).alloc _⟩
                · obtain rfl : j = n := by omega
                  clear HE2 HD
                  go_wp2_with fail
                  refine (CR.out _).mono ?_; rintro x w3 ⟨rfl, hx3⟩
                  by_cases hfu : 60000 < ((catF T O j ++ endB).size : Int)
                  · have HRj : Hid (R = ⟨⟨#[]⟩, 12, -1⟩) := Lib.hid (by rw [HR2.out, loopV_full HZ.out hfu])
                    rw [ByteArray.size_append] at hfu
                    have q : decide ((60000 : Int) < (((catF T O j).size + endB.size : Nat) : Int)) = true := decide_eq_true hfu
                    rw [Int.natCast_add] at q
                    generalize catF T O j = C at *
                    generalize endB = ZB at *
                    go_wp2_with fail
                    go_ret2
                    exact ⟨_, by rw [HRj.out]; rfl, .inl ⟨by rw [HRj.out], by rw [HRj.out]; rfl⟩, hEw.trans hx3⟩
                  · have HRj : Hid (R = ⟨catF T O j ++ endB, 0, -1⟩) := Lib.hid (by rw [HR2.out, loopV_good HZ.out hfu])
                    rw [ByteArray.size_append] at hfu
                    have q : decide ((60000 : Int) < (((catF T O j).size + endB.size : Nat) : Int)) = false := decide_eq_false hfu
                    rw [Int.natCast_add] at q
                    generalize catF T O j = C at *
                    generalize endB = ZB at *
                    go_wp2_with fail
                    go_ret2
                    exact ⟨_, by rw [HRj.out]; rfl, .inl ⟨by rw [HRj.out], by rw [HRj.out]; rfl⟩, hEw.trans hx3⟩
        · have HRe : Hid (R = ⟨⟨#[]⟩, WE, -1⟩) := Lib.hid (by rw [HR.out, if_pos hw])
          have CE := Lib.hid (fun W (hW : Ext w1 W) => tell_is W ((hg.ext hx1).ext hW) (hEr.ext hW) hw)
          obtain ⟨t, xv, rfl⟩ := isErr_iface hEr hw
          clear HR CP hEr hN
          go_wp2_with fail
          refine (CE.out _ (Ext.refl _)).mono ?_; rintro x w2 ⟨rfl, hx2⟩
          go_wp2_with fail
          go_ret2
          exact ⟨_, by rw [HRe.out]; rfl, .inl ⟨by rw [HRe.out], by rw [HRe.out, errOf_ne hw]; rfl⟩, hx1.trans hx2⟩
end Go.Proofs.YtnbcbipigiopbaaGreatDoor
/-
  The reference's StreamWrite: its walk. No conditions but the arguments' bounds.
-/
namespace Go.Proofs.YtnbcbipigiopbaaGreatDoor
open Go.RowKit Go.WideShapes

set_option maxHeartbeats 8000000 in
set_option maxRecDepth 100000 in
theorem refStream_any (d : Int) (w : World) (v1 v2 : Value) (n m : Nat) (E : Nat → Ent) (K X : Nat → ByteArray) (T : Nat → ByteArray) (KE : Nat → Int) (hE2 : IsEnts w v2 n E) (hn : n ≤ 45) (hP : IsPairs w v1 m K X) (hS : Short m K X) (hm30 : m ≤ 30)
    (hT : ∀ k, k < n → (T k).size ≤ 20000) (D : ∀ k, k < n → ∀ W, Ext w W → Calls Tryz.prog 17 #[.int .i64 d, .agg #[.string (E k).nm, .int .u8 (E k).kd, .int .i64 (E k).md, .int .i64 (E k).ui, .int .i64 (E k).gi, .int .i64 (E k).sz, .int .i64 (E k).ts, .int .i64 (E k).tn, .string (E k).lk, .string (E k).us, .string (E k).gr, .int .i64 (E k).ma, .int .i64 (E k).mi, .string (E k).dt, .slice (E k).pa (E k).pn (E k).pc]] W fun x w' => x = .returned (.tuple #[.string (T k), .int .i64 (KE k)]) ∧ Ext W w')
    (h : ByteArray) (hh : h.size = 512) (G : ∀ w, HasMax w → Calls Tryz.prog 23 #[.int .i64 4, .agg #[.string ⟨#[]⟩, .string ⟨#[]⟩, .string (⟨#[]⟩ : ByteArray), .string (⟨#[]⟩ : ByteArray), .string ⟨#[]⟩, .int .u8 103, .int .i64 0, .int .i64 0, .int .i64 0, .int .i64 ((wrV m K X).size : Int), .int .i64 0, .int .i64 0, .int .i64 0], .string globNm, .string ⟨#[]⟩, .string (wrV m K X)] w fun e w' => e = .returned (.tuple #[.string (wrnV 0 h (wrV m K X)), .int .i64 0]) ∧ Ext w w')
    (_hg : HasHandle w) (hm : HasMax w) (ht : HasPow w) :
    Calls Tryz.prog 11 #[.int .i64 d, v1, v2] w fun x w' => x = .returned (.tuple #[.string (streamV d n m (wrE m K X) (wrnV 0 h (wrV m K X)) T KE).v, .agg #[.int .i64 (streamV d n m (wrE m K X) (wrnV 0 h (wrV m K X)) T KE).e, .int .i64 (streamV d n m (wrE m K X) (wrnV 0 h (wrV m K X)) T KE).p]]) ∧ Ext w w' := by
  obtain ⟨a1, c1, rfl⟩ := isPairs_open hP
  obtain ⟨a2, c2, rfl⟩ := isEnts_open hE2
  have CP := Lib.hid (fun W (hE : Ext w W) => refRecords_any W _ m K X (hP.ext hE) hS (ht.ext hE))
  have hwz : (wrV m K X).size ≤ 6180 := wrV_le m K X
  have hgz := wrnV_size (k := 0) (h := h) (bs := wrV m K X) (fun _ => hh)
  have hgz' : (wrnV 0 h (wrV m K X)).size ≤ 8000 := by omega
  have hW0 : m = 0 → wrE m K X = 0 := fun h0 => by subst h0; exact (wr_good (by omega) (fun j hj => by omega)).2.1
  have HG := Lib.hid G
  have HE2 := Lib.hid hE2
  have HD := Lib.hid D
  have CR := Lib.hid (fun w => rep_end w)
  have C4 := Lib.hid (fun w => bareF_any 4 w)
  have C1 := Lib.hid (fun w => bareF_any 1 w)
  have C12 := Lib.hid (fun w => bareF_any 12 w)
  have CG := Lib.hid (fun w => goodF_any w)
  have CI := Lib.hid (fun w => faultIs_any (wrE m K X) (wrP m K X) w)
  have CB := Lib.hid (fun w => bareF_any (wrE m K X) w)
  have hez : endB.size ≤ 1024 := Nat.le_of_eq endB_size
  clear hE2 D G hP hS hgz hh
  generalize wrnV 0 h (wrV m K X) = GH at *
  generalize wrV m K X = WV at *
  generalize wrE m K X = WE at *
  generalize wrP m K X = WP at *
  obtain ⟨R, hR⟩ : ∃ R, R = streamV d n m WE GH T KE := ⟨_, rfl⟩
  rw [← hR]
  have hw0 : Ext w (w.alloc (.cells #[.int .i64 0, .int .i64 0] 35)) := (Ext.refl w).alloc _
  by_cases h40 : 40 < n
  · have HRj : Hid (R = ⟨⟨#[]⟩, 4, -1⟩) := Lib.hid (by rw [hR]; exact if_pos h40)
    have q : decide ((40 : Int) < (n : Int)) = true := decide_eq_true (by omega)
    clear hR
    go_enter Tryz.func11, Tryz.ntmps11
    go_wp2_with fail
    refine (C4.out _).mono ?_; rintro x w1 ⟨rfl, hx1⟩
    obtain ⟨r1, r2, r3, r4, r5⟩ := res_box (hx1)
    go_wp2_with fail
    obtain ⟨s0, s1⟩ := res_put r1 r2 (.int .i64 4) (.int .i64 (-1))
    exact bodyPost_ret (v := .tuple #[.string ⟨#[]⟩, .agg #[.int .i64 4, .int .i64 (-1)]]) (by simp [results, Tryz.results11, go_sem, s0, s1]) rfl ⟨by rw [HRj.out], ((hw0.trans (hx1)).setCell (Nat.le_refl _) _).setCell (Nat.le_refl _) _⟩
  · have q40 : decide ((40 : Int) < (n : Int)) = false := decide_eq_false (by omega)
    unfold streamV at hR
    rw [if_neg h40] at hR
    have HR := Lib.hid hR
    have HW0 := Lib.hid hW0
    obtain ⟨O, hO⟩ : ∃ O, O = if 0 < m ∧ 0 < n then GH else (⟨#[]⟩ : ByteArray) := ⟨_, rfl⟩
    have HO := Lib.hid hO
    have hOz : O.size ≤ 8000 := by
      rw [hO]
      split
      · exact hgz'
      · show 0 ≤ _
        omega
    have hcz : ∀ k, k ≤ n → (catF T O k).size ≤ 1000000 := fun k hk => by
      have := catF_size (o := O) hT k hk
      omega
    have Hcz := Lib.hid hcz
    clear hR hW0 hO hcz hT
    go_enter Tryz.func11, Tryz.ntmps11
    go_upto_if 21 with fail
    go_cut [8] (fun o wx => o = .string O ∧ Hid (R = loopV T KE n O) ∧ Ext (w.alloc (.cells #[.int .i64 0, .int .i64 0] 35)) wx)
    case first =>
      by_cases hm0 : m = 0
      · have q1 : decide ((0 : Int) < (m : Int)) = false := decide_eq_false (by omega)
        have hR2 : R = loopV T KE n O := by rw [HR.out, if_neg (fun h => by omega), if_neg (by rw [HW0.out hm0]; simp), ← HO.out]
        have hO2 : O = ⟨#[]⟩ := by rw [HO.out, if_neg (fun h => by omega)]
        have HR2 := Lib.hid hR2
        have HO2 := Lib.hid hO2
        clear hR2 hO2
        go_wp2_with fail
        go_meet
        exact ⟨by rw [HO2.out], HR2, Ext.refl _⟩
      · have q1 : decide ((0 : Int) < (m : Int)) = true := decide_eq_true (by omega)
        by_cases hd : d = 4
        · have q2 : (d != 4) = false := by rw [hd]; rfl
          have hR2 : R = if WE ≠ 0 then ⟨⟨#[]⟩, WE, -1⟩ else loopV T KE n O := by rw [HR.out, if_neg (fun h => h.2 hd), ← HO.out]
          have HR2 := Lib.hid hR2
          clear hR2 HR hd
          go_wp2_with fail
          refine (CP.out _ hw0).mono ?_; rintro x w1 ⟨rfl, hx1⟩
          have hF2 : Ext (w.alloc (.cells #[.int .i64 0, .int .i64 0] 35)) (w1.alloc (.cells #[.int .i64 WE, .int .i64 WP] 35)) := hx1.alloc _
          by_cases hw : WE = 0
          · have HR3 : Hid (R = loopV T KE n O) := Lib.hid (by rw [HR2.out, if_neg (by rw [hw]; simp)])
            have qw : (WE == 0) = true := by rw [hw]; rfl
            rw [qw] at CI
            clear HR2 CB hw
            go_wp2_with fail
            refine (CI.out _).mono ?_; rintro x w3 ⟨rfl, hx3⟩
            by_cases hn0 : n = 0
            · have q2 : decide ((0 : Int) < (n : Int)) = false := decide_eq_false (by omega)
              have HO2 : Hid (O = ⟨#[]⟩) := Lib.hid (by rw [HO.out, if_neg (fun h => by omega)])
              have q2n : decide (0 < n) = false := decide_eq_false (by omega)
              clear hn0
              go_wp2_with fail
              go_meet
              exact ⟨by rw [HO2.out], HR3, hF2.trans hx3⟩
            · have q2 : decide ((0 : Int) < (n : Int)) = true := decide_eq_true (by omega)
              have q2n : decide (0 < n) = true := decide_eq_true (by omega)
              have HO2 : Hid (O = GH) := Lib.hid (by rw [HO.out, if_pos (by omega)])
              unfold globNm at HG
              go_wp2_with fail
              refine (HG.out _ (hm.ext (hw0.trans (hF2.trans hx3)))).mono ?_; rintro x w4 ⟨rfl, hx4⟩
              go_wp2_with fail
              go_meet
              exact ⟨by rw [HO2.out], HR3, (hF2.trans hx3).trans hx4⟩
          · have HRj : Hid (R = ⟨⟨#[]⟩, WE, -1⟩) := Lib.hid (by rw [HR2.out, if_pos hw])
            have qw : (WE == 0) = false := by simpa using hw
            rw [qw] at CI
            clear HR2 hw
            go_wp2_with fail
            refine (CI.out _).mono ?_; rintro x w3 ⟨rfl, hx3⟩
            obtain ⟨t1, t2, _, _, t5⟩ := res_box hx3
            go_wp2_with fail
            refine (CB.out _).mono ?_; rintro x w5 ⟨rfl, hx5⟩
            have hF5 := (hF2.trans hx3).trans hx5
            clear t1 t2 t5
            obtain ⟨r1, r2, r3, r4, r5⟩ := res_box (hF5)
            go_wp2_with fail
            obtain ⟨s0, s1⟩ := res_put r1 r2 (.int .i64 WE) (.int .i64 (-1))
            exact bodyPost_ret (v := .tuple #[.string ⟨#[]⟩, .agg #[.int .i64 WE, .int .i64 (-1)]]) (by simp [results, Tryz.results11, go_sem, s0, s1]) rfl ⟨by rw [HRj.out], ((hw0.trans (hF5)).setCell (Nat.le_refl _) _).setCell (Nat.le_refl _) _⟩
        · have HRj : Hid (R = ⟨⟨#[]⟩, 1, -1⟩) := Lib.hid (by rw [HR.out, if_pos ⟨by omega, hd⟩])
          have q2 : (d != 4) = true := by simpa using hd
          clear HR hd
          go_wp2_with fail
          refine (C1.out _).mono ?_; rintro x w1 ⟨rfl, hx1⟩
          obtain ⟨r1, r2, r3, r4, r5⟩ := res_box (hx1)
          go_wp2_with fail
          obtain ⟨s0, s1⟩ := res_put r1 r2 (.int .i64 1) (.int .i64 (-1))
          exact bodyPost_ret (v := .tuple #[.string ⟨#[]⟩, .agg #[.int .i64 1, .int .i64 (-1)]]) (by simp [results, Tryz.results11, go_sem, s0, s1]) rfl ⟨by rw [HRj.out], ((hw0.trans (hx1)).setCell (Nat.le_refl _) _).setCell (Nat.le_refl _) _⟩
    case rest =>
      obtain ⟨rfl, HR2, hF2⟩ := hcut
      clear HG HO HR CP CI CB C1 C4
      go_wp2_with fail
      go_loopw [8, 49] (fun o i wr => ∃ j : Nat, j ≤ n ∧ (∀ k, k < j → KE k = 0) ∧ o = .string (catF T O j) ∧ i = .int .i64 (j : Int) ∧ Ext (w.alloc (.cells #[.int .i64 0, .int .i64 0] 35)) wr) (fun _ i _ => n - (intOf i).toNat)
      case atStart => exact ⟨0, Nat.zero_le _, (fun k hk => absurd hk (Nat.not_lt_zero _)), rfl, rfl, hF2⟩
      case round =>
        obtain ⟨j, hj, hz, rfl, rfl, hFw⟩ := hrel
        have hEw := hw0.trans hFw
        have hzj := Hcz.out j hj
        have HZ := Lib.hid hz
        clear hz
        by_cases hlt : j < n
        · obtain ⟨b, off, rfl, hn2, ok, hg'⟩ := isEnts_at HE2.out hlt
          have hg := hg'
          have g0 : wr.cell? ⟨b, off + j * 15, none⟩ = some (.string (E j).nm) := hEw.cell (hg 0 (by omega))
          have g1 : wr.cell? ⟨b, off + j * 15 + 1, none⟩ = some (.int .u8 (E j).kd) := hEw.cell (hg 1 (by omega))
          have g2 : wr.cell? ⟨b, off + j * 15 + 2, none⟩ = some (.int .i64 (E j).md) := hEw.cell (hg 2 (by omega))
          have g3 : wr.cell? ⟨b, off + j * 15 + 3, none⟩ = some (.int .i64 (E j).ui) := hEw.cell (hg 3 (by omega))
          have g4 : wr.cell? ⟨b, off + j * 15 + 4, none⟩ = some (.int .i64 (E j).gi) := hEw.cell (hg 4 (by omega))
          have g5 : wr.cell? ⟨b, off + j * 15 + 5, none⟩ = some (.int .i64 (E j).sz) := hEw.cell (hg 5 (by omega))
          have g6 : wr.cell? ⟨b, off + j * 15 + 6, none⟩ = some (.int .i64 (E j).ts) := hEw.cell (hg 6 (by omega))
          have g7 : wr.cell? ⟨b, off + j * 15 + 7, none⟩ = some (.int .i64 (E j).tn) := hEw.cell (hg 7 (by omega))
          have g8 : wr.cell? ⟨b, off + j * 15 + 8, none⟩ = some (.string (E j).lk) := hEw.cell (hg 8 (by omega))
          have g9 : wr.cell? ⟨b, off + j * 15 + 9, none⟩ = some (.string (E j).us) := hEw.cell (hg 9 (by omega))
          have g10 : wr.cell? ⟨b, off + j * 15 + 10, none⟩ = some (.string (E j).gr) := hEw.cell (hg 10 (by omega))
          have g11 : wr.cell? ⟨b, off + j * 15 + 11, none⟩ = some (.int .i64 (E j).ma) := hEw.cell (hg 11 (by omega))
          have g12 : wr.cell? ⟨b, off + j * 15 + 12, none⟩ = some (.int .i64 (E j).mi) := hEw.cell (hg 12 (by omega))
          have g13 : wr.cell? ⟨b, off + j * 15 + 13, none⟩ = some (.string (E j).dt) := hEw.cell (hg 13 (by omega))
          have g14 : wr.cell? ⟨b, off + j * 15 + 14, none⟩ = some (.slice (E j).pa (E j).pn (E j).pc) := hEw.cell (hg 14 (by omega))
          have hpn := ok.pn
          have CD := Lib.hid (fun W (hW : Ext w W) => HD.out j hlt W hW)
          have hz2 := Hcz.out (j + 1) (by omega)
          have hca : Hid (catF T O (j + 1) = catF T O j ++ T j) := Lib.hid rfl
          rw [hca.out, ByteArray.size_append] at hz2
          clear hg hg' HD
          have hFa : Ext (w.alloc (.cells #[.int .i64 0, .int .i64 0] 35)) (wr.alloc (.cells #[.string (E j).nm, .int .u8 (E j).kd, .int .i64 (E j).md, .int .i64 (E j).ui, .int .i64 (E j).gi, .int .i64 (E j).sz, .int .i64 (E j).ts, .int .i64 (E j).tn, .string (E j).lk, .string (E j).us, .string (E j).gr, .int .i64 (E j).ma, .int .i64 (E j).mi, .string (E j).dt, .slice (E j).pa (E j).pn (E j).pc] 26)) := hFw.alloc _
          go_wp2_with fail
          refine (CD.out _ (hw0.trans hFa)).mono ?_; rintro x w3 ⟨rfl, hx3⟩
          clear g0 g1 g2 g3 g4 g5 g6 g7 g8 g9 g10 g11 g12 g13 g14
          have hF3 := hFa.trans hx3
          by_cases hk : KE j = 0
          · have hzz : Hid (∀ k, k < j + 1 → KE k = 0) := Lib.hid (fun k hk' => by
              rcases Nat.lt_succ_iff_lt_or_eq.1 hk' with h1 | rfl
              · exact HZ.out k h1
              · exact hk)
            rw [hk]
            clear CD
            go_wp2_with fail
            go_roundw
            case rel => exact ⟨j + 1, hlt, hzz.out, by rw [hca.out], by go_num, hF3⟩
            case measure => simp [intOf]; omega
          · have HRj : Hid (R = ⟨⟨#[]⟩, KE j, (j : Int)⟩) := Lib.hid (by rw [HR2.out, loopV_hit hlt HZ.out hk])
            have qk : (KE j == 0) = false := by simpa using hk
            clear CD hk
            obtain ⟨r1, r2, r3, r4, r5⟩ := res_box (hF3)
            go_wp2_with fail
            obtain ⟨s0, s1⟩ := res_put r1 r2 (.int .i64 (KE j)) (.int .i64 (j : Int))
            exact bodyPost_ret (v := .tuple #[.string ⟨#[]⟩, .agg #[.int .i64 (KE j), .int .i64 (j : Int)]]) (by simp [results, Tryz.results11, go_sem, s0, s1]) rfl ⟨by rw [HRj.out], ((hw0.trans (hF3)).setCell (Nat.le_refl _) _).setCell (Nat.le_refl _) _⟩
        · obtain rfl : j = n := by omega
          clear HE2 HD
          go_wp2_with fail
          refine (CR.out _).mono ?_; rintro x w3 ⟨rfl, hx3⟩
          have hF3 := hFw.trans hx3
          by_cases hfu : 60000 < ((catF T O j ++ endB).size : Int)
          · have HRj : Hid (R = ⟨⟨#[]⟩, 12, -1⟩) := Lib.hid (by rw [HR2.out, loopV_full HZ.out hfu])
            rw [ByteArray.size_append] at hfu
            have q : decide ((60000 : Int) < (((catF T O j).size + endB.size : Nat) : Int)) = true := decide_eq_true hfu
            rw [Int.natCast_add] at q
            generalize catF T O j = C at *
            generalize endB = ZB at *
            go_wp2_with fail
            refine (C12.out _).mono ?_; rintro x w5 ⟨rfl, hx5⟩
            have hF5 := hF3.trans hx5
            obtain ⟨r1, r2, r3, r4, r5⟩ := res_box (hF5)
            go_wp2_with fail
            obtain ⟨s0, s1⟩ := res_put r1 r2 (.int .i64 12) (.int .i64 (-1))
            exact bodyPost_ret (v := .tuple #[.string ⟨#[]⟩, .agg #[.int .i64 12, .int .i64 (-1)]]) (by simp [results, Tryz.results11, go_sem, s0, s1]) rfl ⟨by rw [HRj.out], ((hw0.trans (hF5)).setCell (Nat.le_refl _) _).setCell (Nat.le_refl _) _⟩
          · have HRj : Hid (R = ⟨catF T O j ++ endB, 0, -1⟩) := Lib.hid (by rw [HR2.out, loopV_good HZ.out hfu])
            rw [ByteArray.size_append] at hfu
            have q : decide ((60000 : Int) < (((catF T O j).size + endB.size : Nat) : Int)) = false := decide_eq_false hfu
            rw [Int.natCast_add] at q
            generalize catF T O j = C at *
            generalize endB = ZB at *
            go_wp2_with fail
            refine (CG.out _).mono ?_; rintro x w5 ⟨rfl, hx5⟩
            have hF5 := hF3.trans hx5
            obtain ⟨r1, r2, r3, r4, r5⟩ := res_box (hF5)
            go_wp2_with fail
            obtain ⟨s0, s1⟩ := res_put r1 r2 (.int .i64 0) (.int .i64 (-1))
            exact bodyPost_ret (v := .tuple #[.string (C ++ ZB), .agg #[.int .i64 0, .int .i64 (-1)]]) (by simp [results, Tryz.results11, go_sem, s0, s1]) rfl ⟨by rw [HRj.out], ((hw0.trans (hF5)).setCell (Nat.le_refl _) _).setCell (Nat.le_refl _) _⟩
end Go.Proofs.YtnbcbipigiopbaaGreatDoor
