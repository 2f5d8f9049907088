/-
  What a valid member's numbers are. No program, no conditions.
-/
import Derived.Test.YtnbcbipigiopbaaGreatDoorPkH
import Derived.Test.YtnbcbipigiopbaaGreatDoorPkJ
import Derived.Test.YtnbcbipigiopbaaGreatDoorRow
import Derived.Test.YtnbcbipigiopbaaGreatDoorPkA
import Derived.Test.YtnbcbipigiopbaaGreatDoorShelf
import Derived.Laws.RangeAny
import Derived.Lib.DecodeN
import Derived.Laws.Runes
import Derived.Deep.LoopGhost
import Derived.Lib.IndexAny
import Derived.PlainAid
import Derived.Lib.OthersKept
namespace Go.Proofs.YtnbcbipigiopbaaGreatDoor
open Go.RowKit

structure MemOk (e : Ent) (A S : Nat → Int) : Prop where
  kd0 : 48 ≤ e.kd
  kd1 : e.kd ≤ 54
  nm : (e.nm.size : Int) ≤ 120
  nz : zi e.nm < 0
  lk : (e.lk.size : Int) ≤ 120
  lz : zi e.lk < 0
  us : (e.us.size : Int) ≤ 32
  gr : (e.gr.size : Int) ≤ 32
  md0 : 0 ≤ e.md
  md1 : e.md ≤ 4095
  ui0 : 0 ≤ e.ui
  ui1 : e.ui ≤ 1099511627775
  gi0 : 0 ≤ e.gi
  gi1 : e.gi ≤ 1099511627775
  ts0 : -1099511627776 ≤ e.ts
  ts1 : e.ts ≤ 1099511627776
  tn0 : 0 ≤ e.tn
  tn1 : e.tn ≤ 999999999
  ma0 : 0 ≤ e.ma
  ma1 : e.ma ≤ 2097151
  mi0 : 0 ≤ e.mi
  mi1 : e.mi ≤ 2097151
  sz0 : 0 ≤ e.sz
  sz1 : e.sz ≤ 4000
  n20 : e.pn ≤ 20
  pc : ∀ k, k < e.pn → 0 ≤ A k ∧ A k ≤ 4000 ∧ 0 ≤ S k ∧ S k ≤ 4000
theorem memOk {e : Ent} {A S : Nat → Int} (h : memB e.kd e.md e.ui e.gi e.sz e.ts e.tn e.ma e.mi e.nm e.lk e.us e.gr e.dt e.pn A S = true) : MemOk e A S := by
  unfold memB at h
  simp only [Bool.and_eq_true] at h
  obtain ⟨⟨⟨⟨⟨⟨⟨⟨⟨⟨⟨⟨⟨⟨⟨h1, h2⟩, h3⟩, h4⟩, h5⟩, h6⟩, h7⟩, h8⟩, h9⟩, h10⟩, h11⟩, h12⟩, h13⟩, h14⟩, h15⟩, h16⟩ := h
  have hr : ∀ {n a b : Int}, rngB n a b = true → a ≤ n ∧ n ≤ b := fun h => by
    unfold rngB at h
    simp only [Bool.and_eq_true, decide_eq_true_eq] at h
    exact h
  have ht : ∀ {s : ByteArray} {m : Int}, txB s m = true → (s.size : Int) ≤ m ∧ zi s < 0 := fun h => by
    unfold txB at h
    simp only [Bool.and_eq_true, decide_eq_true_eq] at h
    exact h
  have hT : (-1099511627776 ≤ e.ts ∧ e.ts ≤ 1099511627776) ∧ 0 ≤ e.tn ∧ e.tn ≤ 999999999 := by
    unfold timeB at h11
    simp only [Bool.and_eq_true, decide_eq_true_eq] at h11
    omega
  have hF : (0 ≤ e.sz ∧ e.sz ≤ 4000) ∧ e.pn ≤ 20 ∧ ∀ k, k < e.pn → 0 ≤ A k ∧ A k ≤ 4000 ∧ 0 ≤ S k ∧ S k ≤ 4000 := by
    unfold filB at h16
    by_cases hk : e.kd = 48
    · rw [if_pos hk] at h16
      simp only [Bool.and_eq_true, Bool.or_eq_true] at h16
      have hz := hr h16.1
      refine ⟨hz, ?_⟩
      rcases h16.2 with hs | ⟨hh, _⟩
      · unfold spB at hs
        simp only [Bool.not_eq_true', Bool.or_eq_false_iff, decide_eq_false_iff_not] at hs
        have : e.pn = 0 := by omega
        exact ⟨by omega, fun k hk => by omega⟩
      · have hp := fun k hk => piece_split (holeB_pieces (k := k) hh hk)
        unfold holeB at hh
        simp only [Bool.and_eq_true, decide_eq_true_eq] at hh
        exact ⟨hh.1.2, fun k hk => by have := hp k hk; omega⟩
    · rw [if_neg hk] at h16
      simp only [Bool.and_eq_true, decide_eq_true_eq, beq_iff_eq] at h16
      exact ⟨by omega, by omega, fun k hk => by omega⟩
  exact ⟨(hr h1).1, (hr h1).2, (ht h4).1, (ht h4).2, (ht h5).1, (ht h5).2, (ht h6).1, (ht h7).1, (hr h8).1, (hr h8).2, (hr h9).1, (hr h9).2, (hr h10).1, (hr h10).2, hT.1.1, hT.1.2, hT.2.1, hT.2.2, (hr h13).1, (hr h13).2, (hr h14).1, (hr h14).2,
    hF.1.1, hF.1.2, hF.2.1, hF.2.2⟩
theorem MemOk.fits {e : Ent} {A S : Nat → Int} (h : MemOk e A S) : Fits12 A S e.pn := fun k hk => by
  have := h.pc k hk
  exact ⟨octM12 (by omega) (by omega), octM12 (by omega) (by omega)⟩
theorem large_not {e : Ent} (h : largeB e = false) : (e.nm.size : Int) + e.lk.size + e.us.size + e.gr.size ≤ 700 ∧ (e.dt.size : Int) ≤ 4009 := by
  unfold largeB at h
  simp only [Bool.or_eq_false_iff, decide_eq_false_iff_not] at h
  omega
end Go.Proofs.YtnbcbipigiopbaaGreatDoor
/-
  member.holesHead and holesBlocks, and the reference's piecesText. No conditions but the arguments' bounds.
-/
namespace Go.Proofs.YtnbcbipigiopbaaGreatDoor
open Go.RowKit Go.WideShapes

/-- The byte that tells whether there are more. -/
def moreB (b : Bool) : ByteArray := ⟨#[if b = true then 1 else 0]⟩
theorem moreB_size (b : Bool) : (moreB b).size = 1 := rfl
/-- A header with the first four pieces in it. -/
def hhB (h : ByteArray) (A S : Nat → Int) (n : Nat) (sz : Int) : ByteArray := h.extract 0 386 ++ (rowQ A S n 4 ++ (moreB (decide (4 < n)) ++ octS sz 12)) ++ h.extract 495 512
/-- The block of further pieces, if there are any. -/
def blkB (A S : Nat → Int) (n : Nat) : ByteArray := if n = 0 then ⟨#[]⟩ else ⟨#[]⟩ ++ ((rowQ A S n 21 ++ moreB false) ++ padB 505)

theorem GivesRow.more {A S : Nat → Int} {n m : Nat} {w : World} {e : Ending} {w' : World} (h : GivesRow A S n m w e w') :
    ∃ (ra : Option Addr) (rc : Nat), e = .returned (.tuple #[.string (rowQ A S n m), .string (moreB (decide (m < n))), .slice ra (n - m) rc]) ∧ n - m ≤ rc ∧ IsPieces w' (.slice ra (n - m) rc) (n - m) (fun k => A (m + k)) (fun k => S (m + k)) ∧ Ext w w' := by
  obtain ⟨ra, rc, he, h2⟩ := h
  refine ⟨ra, rc, ?_, h2⟩
  rw [he]
  unfold moreB
  by_cases hm : m < n
  · rw [if_pos hm, decide_eq_true hm]; rfl
  · rw [if_neg hm, decide_eq_false hm]; rfl

set_option maxHeartbeats 4000000 in
set_option maxRecDepth 100000 in
theorem holesHead_any (h : ByteArray) (hh : h.size = 512) (e : Ent) (A S : Nat → Int) (mo : MemOk e A S) (hcap : e.pn ≤ e.pc) (w : World) (hp : IsPieces w (.slice e.pa e.pn e.pc) e.pn A S) :
    Calls Tryz.prog 92 #[.string h, .agg #[.string e.nm, .int .u8 e.kd, .int .i64 e.md, .int .i64 e.ui, .int .i64 e.gi, .int .i64 e.sz, .int .i64 e.ts, .int .i64 e.tn, .string e.lk, .string e.us, .string e.gr, .int .i64 e.ma, .int .i64 e.mi, .string e.dt, .slice e.pa e.pn e.pc]] w fun x w' => ∃ (ra : Option Addr) (rc : Nat), x = .returned (.tuple #[.string (hhB h A S e.pn e.sz), .slice ra (e.pn - 4) rc]) ∧ e.pn - 4 ≤ rc ∧ IsPieces w' (.slice ra (e.pn - 4) rc) (e.pn - 4) (fun k => A (4 + k)) (fun k => S (4 + k)) ∧ Ext w w' := by
  have hf := mo.fits
  have C1 := Lib.hid (fun W (hE : Ext w W) => (row4_any W e.pa e.pn e.pc hcap A S (hp.ext hE) hf (fun k hk => ⟨(mo.pc k hk).2.1, (mo.pc k hk).2.2.2⟩)).mono fun _ _ h => h.more)
  have C2 := Lib.hid (fun w => digits_any e.sz (by have := mo.sz1; omega) w)
  have hR := rowQ_size hf 4
  have hD : (octS e.sz 12).size = 12 := by
    have := octS_size e.sz 12 (octM12 mo.sz0 (by have := mo.sz1; omega))
    omega
  have hM := moreB_size (decide (4 < e.pn))
  have hV : Hid (hhB h A S e.pn e.sz = h.extract 0 386 ++ (rowQ A S e.pn 4 ++ (moreB (decide (4 < e.pn)) ++ octS e.sz 12)) ++ h.extract 495 512) := Lib.hid rfl
  have hT : (rowQ A S e.pn 4 ++ (moreB (decide (4 < e.pn)) ++ octS e.sz 12)).size = 109 := by
    rw [ByteArray.size_append, ByteArray.size_append, hR, hM, hD]
  generalize hhB h A S e.pn e.sz = V at *
  generalize rowQ A S e.pn 4 = R at *
  generalize moreB (decide (4 < e.pn)) = M at *
  generalize octS e.sz 12 = D at *
  have hTz : ((R ++ (M ++ D)).size : Int) = 109 := by omega
  clear mo hp hf hcap
  go_enter Tryz.func92, Tryz.ntmps92
  go_wp2_with fail
  refine (C1.out _ ((Ext.refl _).alloc _)).mono ?_; rintro x w1 ⟨ra, rc, rfl, hle, hP, hx1⟩
  have HP := Lib.hid hP
  have Hle := Lib.hid hle
  clear hP hle
  obtain ⟨⟨g0, g1, g2, g3, g4, g5, g6, g7, g8, g9, g10, g11, g12, g13, g14⟩, gl⟩ := ent_box e hx1
  go_wp2_with fail
  refine (C2.out _).mono ?_; rintro x w2 ⟨rfl, hx2⟩
  go_wp2_with fail
  have hxx := Ext.trans ((Ext.refl w).alloc _) (hx1.trans hx2)
  generalize R ++ (M ++ D) = T at *
  refine wp_region_det (Stood _) (by kernel_rfl) (by kernel_rfl) (Stood.start _) ?_
  repeat (first
    | (refine det_skip (by rfl) ?_; simp only [Act.put, List.setIfInBounds_toArray, List.set_cons_zero, List.set_cons_succ])
    | (refine det_op (v := ?_) rfl (by rfl) (fun w' hS => ?_) ?_; rotate_left; (focus (obtain ⟨hcl, hxt⟩ := hS; go_wp2_with (fail); (first | refine ⟨?_, rfl, hcl, hxt⟩ | refine ⟨?_, rfl, Stood.of (hxt.trans (by assumption))⟩); (first | (simp only [List.getElem?_toArray, List.getElem?_cons_succ, List.getElem?_cons_zero]; rfl) | rfl))); simp only [Act.put, List.setIfInBounds_toArray, List.set_cons_zero, List.set_cons_succ]))
  refine det_end ?_
  intro w3 hS
  have hx3 := hS.2
  clear hS
  go_wp2_with fail
  go_ret2
  exact ⟨ra, rc, by rw [hV.out]; rfl, Hle.out, HP.out.ext (hx2.trans hx3), hxx.trans hx3⟩

set_option maxHeartbeats 4000000 in
set_option maxRecDepth 100000 in
theorem holesBlocks_any (pa : Option Addr) (n cap : Nat) (hcap : n ≤ cap) (hn : n ≤ 21) (A S : Nat → Int) (w : World) (hp : IsPieces w (.slice pa n cap) n A S) (hf : Fits12 A S n) (hb : ∀ k, k < n → A k ≤ 4000 ∧ S k ≤ 4000) :
    Calls Tryz.prog 94 #[.slice pa n cap] w fun x w' => x = .returned (.string (blkB A S n)) ∧ Ext w w' := by
  by_cases h0 : n = 0
  · subst h0
    have hV : Hid (blkB A S 0 = ⟨#[]⟩) := Lib.hid (if_pos rfl)
    clear hp hf hb
    go_enter Tryz.func94, Tryz.ntmps94
    go_wp2_with fail
    refine wp_loop_rounds 1 ?_
    rw [rounds_succ]
    go_wp2_with fail
    go_ret
    exact ⟨by rw [hV.out]; rfl, (by show Below _ _ _; repeat' (first | (with_reducible exact Below.refl _ _) | (with_reducible assumption) | (with_reducible refine belowDrewN ?_ _) | (with_reducible refine Below.alloc ?_ ?_ _) | (with_reducible refine Below.drew ?_) | (with_reducible refine Below.setCell ?_ ?_ _) | go_size))⟩
  · have hd : decide ((0 : Int) < (n : Int)) = true := decide_eq_true (by omega)
    have c1 := (row21_any w pa n cap hcap A S hp hf hb).mono fun _ _ h => h.more
    rw [show n - 21 = 0 by omega, show decide (21 < n) = false from decide_eq_false (by omega)] at c1
    have C1 := Lib.hid c1
    have hR := rowQ_size hf 21
    have hM := moreB_size false
    have hsz : (rowQ A S n 21 ++ moreB false).size = 505 := by rw [ByteArray.size_append, hR, hM]
    have c2 := fun w => fill_any (rowQ A S n 21 ++ moreB false) (by omega) w
    rw [hsz] at c2
    have C2 := Lib.hid c2
    have hpz := padB_size 505
    have hV : Hid (blkB A S n = ⟨#[]⟩ ++ ((rowQ A S n 21 ++ moreB false) ++ padB 505)) := Lib.hid (if_neg h0)
    clear c1 c2 hp hf hb hsz
    generalize blkB A S n = V at *
    generalize rowQ A S n 21 = R at *
    generalize moreB false = M at *
    generalize padB 505 = P at *
    go_enter Tryz.func94, Tryz.ntmps94
    go_wp2_with fail
    refine wp_loop_rounds 2 ?_
    rw [rounds_succ]
    go_wp2_with fail
    refine C1.out.mono ?_; rintro x w1 ⟨ra, rc, rfl, _, _, hx1⟩
    go_wp2_with fail
    refine (C2.out _).mono ?_; rintro x w2 ⟨rfl, hx2⟩
    go_wp2_with fail
    rw [rounds_succ]
    go_wp2_with fail
    go_ret
    exact ⟨by rw [hV.out]; rfl, hx1.trans hx2⟩

theorem rep24 (w : World) : Calls Tryz.prog 24 #[.string ⟨#[0]⟩, .int .i64 24] w fun e w' => e = .returned (.string z24) ∧ Ext w w' := by
  have := Tryz.strings_Repeat ⟨#[0]⟩ 24 w (by decide) (by decide)
  exact this
set_option maxHeartbeats 4000000 in
set_option maxRecDepth 100000 in
theorem piecesText_any (f c n : Nat) (hf100 : f ≤ 100) (hc100 : c ≤ 100) (v : Value) (A S : Nat → Int) (w : World) (hp : IsPieces w v n A S) (hf : Fits12 A S n) (hb : ∀ k, k < n → A k ≤ 4000 ∧ S k ≤ 4000) :
    Calls Tryz.prog 78 #[v, .int .i64 (f : Int), .int .i64 (c : Int)] w fun x w' => x = .returned (.string (rowQ (fun k => A (f + k)) (fun k => S (f + k)) (n - f) c)) ∧ Ext w w' := by
  obtain ⟨A', hA'⟩ : ∃ A' : Nat → Int, A' = fun k => A (f + k) := ⟨_, rfl⟩
  obtain ⟨S', hS'⟩ : ∃ S' : Nat → Int, S' = fun k => S (f + k) := ⟨_, rfl⟩
  rw [← hA', ← hS']
  have hf' : Fits12 A' S' (n - f) := fun k hk => by rw [hA', hS']; exact hf (f + k) (by omega)
  have hAk : ∀ j, f ≤ j → A' (j - f) = A j ∧ S' (j - f) = S j := fun j hj => by rw [hA', hS']; show A (f + (j - f)) = _ ∧ S (f + (j - f)) = _; rw [show f + (j - f) = j by omega]; exact ⟨rfl, rfl⟩
  have HA := Lib.hid hAk
  have Hz := Lib.hid (fun j => rowQ_size hf' j)
  have Hb := Lib.hid hb
  have hlen : ∃ a cap, v = .slice a n cap := by
    rcases hp with ⟨⟨a0, c0, rfl⟩, rfl⟩ | ⟨b, off, cap, rfl, hn, _⟩
    · exact ⟨_, _, rfl⟩
    · exact ⟨_, _, rfl⟩
  have hn : n ≤ 8796093022200 := by
    rcases hp with ⟨_, rfl⟩ | ⟨b, off, cap, _, hn, _⟩
    · omega
    · exact hn
  have Hp := Lib.hid hp
  have CR := Lib.hid (fun w => rep24 w)
  obtain ⟨pa, cap, rfl⟩ := hlen
  clear hp hf' hAk hA' hS' hf hb
  go_enter Tryz.func78, Tryz.ntmps78
  go_wp2_with fail
  go_loopw [7, 8] (fun s i wr => ∃ j : Nat, j ≤ c ∧ s = .string (rowQ A' S' (n - f) j) ∧ i = .int .i64 ((f + j : Nat) : Int) ∧ Ext w wr) (fun _ i _ => f + c - (intOf i).toNat)
  case atStart => exact ⟨0, Nat.zero_le _, rfl, rfl, Ext.refl _⟩
  case round =>
    obtain ⟨j, hj, rfl, rfl, hE⟩ := hrel
    have hz := Hz.out j
    have hst : Hid (rowQ A' S' (n - f) (j + 1) = rowQ A' S' (n - f) j ++ (if j < n - f then pcB A' S' j else z24)) := Lib.hid rfl
    have hz2 : (rowQ A' S' (n - f) j).size ≤ 3000 := by omega
    have Hz1 := Lib.hid hz
    clear hz
    by_cases hlt : j < c
    · by_cases hin : j < n - f
      · as_aux_lemma =>
          obtain ⟨p, hpv⟩ : ∃ p, p = f + j := ⟨_, rfl⟩
          have hpn : p < n := by omega
          have hk := HA.out p (by omega)
          rw [show p - f = j by omega] at hk
          have hstep : Hid (rowQ A' S' (n - f) (j + 1) = rowQ A' S' (n - f) j ++ (octS (A p) 12 ++ octS (S p) 12)) := Lib.hid (by rw [hst.out, if_pos hin, pcB, hk.1, hk.2])
          have hbp := Hb.out p hpn
          have C1 := Lib.hid (fun w => refOctal_any (A p) 12 (by omega) w)
          have C2 := Lib.hid (fun w => refOctal_any (S p) 12 (by omega) w)
          have z1 := octS_le (A p) 12
          have z2 := octS_le (S p) 12
          have g : Hid (wr.cell? ⟨0, 0, none⟩ = wr.cell? ⟨0, 0, none⟩) := Lib.hid rfl
          rcases Hp.out.ext hE with ⟨_, h0⟩ | ⟨b, off, cap', hv, _, hcells⟩
          · omega
          · simp only [Value.slice.injEq] at hv
            obtain ⟨rfl, _, rfl⟩ := hv
            obtain ⟨g1, g2⟩ := hcells p hpn
            have Hc := Lib.hid (fun W (hW : Ext wr W) => (hW.cell g2))
            rw [← hpv]
            have Hpv := Lib.hid hpv
            have hp2 : (p : Int) ≤ 200 := by omega
            clear hst hk hbp g hcells hpv Hp Hz1
            generalize rowQ A' S' (n - f) j = R at *
            generalize octS (A p) 12 = d1 at *
            generalize octS (S p) 12 = d2 at *
            generalize octE (A p) 12 = e1 at *
            generalize octE (S p) 12 = e2 at *
            have q1 : decide ((p : Int) < (f : Int) + (c : Int)) = true := decide_eq_true (by have := Hpv.out; omega)
            have q2 : decide ((n : Int) ≤ (p : Int)) = false := decide_eq_false (by omega)
            go_wp2_with fail
            refine (C1.out _).mono ?_; rintro x w1 ⟨rfl, hx1⟩
            have g3 := Hc.out _ hx1
            go_wp2_with fail
            refine (C2.out _).mono ?_; rintro x w2 ⟨rfl, hx2⟩
            go_wp2_with fail
            go_roundw
            case rel => exact ⟨j + 1, hlt, by rw [hstep.out], by have := Hpv.out; congr 1; omega, (hE.trans hx1).trans hx2⟩
            case measure => have := Hpv.out; simp [intOf]; omega
      · as_aux_lemma =>
          obtain ⟨p, hpv⟩ : ∃ p, p = f + j := ⟨_, rfl⟩
          have hstep : Hid (rowQ A' S' (n - f) (j + 1) = rowQ A' S' (n - f) j ++ z24) := Lib.hid (by rw [hst.out, if_neg hin])
          have z1 : z24.size = 24 := rfl
          rw [← hpv]
          have q1 : decide ((p : Int) < (f : Int) + (c : Int)) = true := decide_eq_true (by omega)
          have q2 : decide (n ≤ p) = true := decide_eq_true (by omega)
          have Hpv := Lib.hid hpv
          have hp2 : (p : Int) ≤ 200 := by omega
          clear hst hpv Hp Hz1
          generalize rowQ A' S' (n - f) j = R at *
          generalize z24 = Z at *
          go_wp2_with fail
          refine (CR.out _).mono ?_; rintro x w1 ⟨rfl, hx1⟩
          go_wp2_with fail
          go_roundw
          case rel => exact ⟨j + 1, hlt, by rw [hstep.out], by have := Hpv.out; congr 1; omega, hE.trans hx1⟩
          case measure => have := Hpv.out; simp [intOf]; omega
    · obtain rfl : j = c := by omega
      as_aux_lemma =>
        obtain ⟨p, hpv⟩ : ∃ p, p = f + j := ⟨_, rfl⟩
        have q1 : decide ((p : Int) < (f : Int) + (j : Int)) = false := decide_eq_false (by omega)
        rw [← hpv]
        have Hpv := Lib.hid hpv
        clear hst hpv Hz1
        generalize hRe : rowQ A' S' (n - f) j = R at *
        have HRe := Lib.hid hRe
        clear hRe
        go_wp2_with fail
        go_ret
        exact ⟨by rw [HRe.out]; rfl, hE⟩
end Go.Proofs.YtnbcbipigiopbaaGreatDoor
/-
  strings.ContainsAny at the two bytes '=' and a line's end, for every text.
-/
namespace Go.Proofs.YtnbcbipigiopbaaGreatDoor
open Go.RowKit Go.PlainAid

/-- The two bytes. -/
def eqNl : ByteArray := ⟨#[61, 10]⟩
theorem decode_facts (n b0 b1 b2 b3 : Nat) (h0 : b0 < 256) (h1 : b1 < 256) (h2 : b2 < 256) (h3 : b3 < 256) :
    ((Lib.decodeN n b0 b1 b2 b3).1 < 55296 ∨ (57343 < (Lib.decodeN n b0 b1 b2 b3).1 ∧ (Lib.decodeN n b0 b1 b2 b3).1 ≤ 1114111)) ∧
    (2 ≤ (Lib.decodeN n b0 b1 b2 b3).2 → 128 ≤ b1 ∧ 1 < n) ∧ (3 ≤ (Lib.decodeN n b0 b1 b2 b3).2 → 128 ≤ b2 ∧ 2 < n) ∧ (4 ≤ (Lib.decodeN n b0 b1 b2 b3).2 → 128 ≤ b3 ∧ 3 < n) ∧ (Lib.decodeN n b0 b1 b2 b3).2 ≤ 4 := by
  unfold Lib.decodeN
  repeat' split
  all_goals (simp only; omega)

theorem getBang (s : ByteArray) (j : Nat) (h : j < s.size) : s.get! j = s[j]'h := by
  have := Go.get_at s j h
  simpa using this
/-- A character that is not ASCII: its code, and that its bytes are none of the two. -/
theorem decode_skip (s : ByteArray) (i : Nat) (h : i < s.size) (ha : 128 ≤ (s[i]'h).toNat) :
    128 ≤ ((Utf8.decode s i).1 : Int) ∧ (((Utf8.decode s i).1 : Int) < 55296 ∨ (57343 < ((Utf8.decode s i).1 : Int) ∧ ((Utf8.decode s i).1 : Int) ≤ 1114111)) ∧ 1 ≤ (Utf8.decode s i).2 ∧ i + (Utf8.decode s i).2 ≤ s.size ∧
    (Lib.NoAny s.data.toList [61, 10] i → Lib.NoAny s.data.toList [61, 10] (i + (Utf8.decode s i).2)) := by
  obtain ⟨d1, d2⟩ := Go.decode_high s i h ha
  have hb : ∀ k, (s.get! (i + k)).toNat < 256 := fun k => (s.get! (i + k)).toNat_lt
  have hf := decode_facts (s.size - i) (s.get! i).toNat (s.get! (i + 1)).toNat (s.get! (i + 2)).toNat (s.get! (i + 3)).toNat (hb 0) (hb 1) (hb 2) (hb 3)
  rw [← Lib.decode_at] at hf
  obtain ⟨f1, f2, f3, f4, f5⟩ := hf
  generalize (Utf8.decode s i).1 = c at *
  generalize (Utf8.decode s i).2 = d at *
  have hlen : i + d ≤ s.size := by
    rcases (show d = 1 ∨ d = 2 ∨ d = 3 ∨ d = 4 by omega) with rfl | rfl | rfl | rfl
    · omega
    · have := (f2 (by omega)).2; omega
    · have := (f3 (by omega)).2; omega
    · have := (f4 (by omega)).2; omega
  have hhigh : ∀ j, i ≤ j → j < i + d → ∀ hj : j < s.size, 128 ≤ (s[j]'hj).toNat := fun j hj1 hj2 hj => by
    rcases (show j = i ∨ j = i + 1 ∨ j = i + 2 ∨ j = i + 3 by omega) with rfl | rfl | rfl | rfl
    · exact ha
    · rw [← getBang s _ hj]; exact (f2 (by omega)).1
    · rw [← getBang s _ hj]; exact (f3 (by omega)).1
    · rw [← getBang s _ hj]; exact (f4 (by omega)).1
  refine ⟨by omega, by omega, d2, hlen, fun hno j b hj hjb => ?_⟩
  rcases Nat.lt_or_ge j i with h1 | h1
  · exact hno j b h1 hjb
  · have hjs : j < s.size := by omega
    have hg := hhigh j h1 hj hjs
    have e : s.data.toList[j]? = some (s[j]'hjs) := by
      have : j < s.data.toList.length := hjs
      rw [List.getElem?_eq_getElem this]
      rfl
    rw [e] at hjb
    injection hjb with hjb
    subst hjb
    generalize s[j]'hjs = x at *
    have h61 : (x == 61) = false := by rw [beq_eq_false_iff_ne]; rintro rfl; exact absurd hg (by decide)
    have h10 : (x == 10) = false := by rw [beq_eq_false_iff_ne]; rintro rfl; exact absurd hg (by decide)
    simp only [List.contains_cons, h61, h10, List.contains_nil, Bool.or_false]

theorem idxByte_ext (s : ByteArray) (c : Int) (w : World) : Calls Tryz.prog 38 #[.string s, .int .u8 c] w fun e w' => e = .returned (.int .i64 (Lib.indexByte s.data.toList c.toNat.toUInt8)) ∧ Ext w w' :=
  (Tryz.strings_IndexByte s c w).mono fun _ _ ⟨h, k⟩ => ⟨h, by rw [k]; exact Ext.refl _⟩
set_option maxHeartbeats 4000000 in
set_option maxRecDepth 100000 in
theorem idxRune_high (r : Int) (h1 : 128 ≤ r) (hv : r < 55296 ∨ (57343 < r ∧ r ≤ 1114111)) (w : World) : Calls Tryz.prog 157 #[.string ⟨#[61, 10]⟩, .int .i32 r] w fun e w' => e = .returned (.int .i64 (-1)) ∧ Ext w w' := by
  by_cases h : r = 65533
  · subst h
    have n0 : ∀ ty, _ := fun ty => run_next_ascii (P := Tryz.prog) w ⟨#[61, 10]⟩ 0 ty (by decide) (by decide)
    have n1 : ∀ ty, _ := fun ty => run_next_ascii (P := Tryz.prog) w ⟨#[61, 10]⟩ 1 ty (by decide) (by decide)
    have n2 : ∀ ty, _ := fun ty => run_next_end (P := Tryz.prog) w ⟨#[61, 10]⟩ 2 ty (by decide)
    go_enter Tryz.func157, Tryz.ntmps157
    go_wp2_with fail
    go_loopg [5, 6] 2 (fun g _ _ wx => ∃ i : Nat, i + g = 2 ∧ wx = w.iter ⟨#[61, 10]⟩ i)
    case atStart => exact ⟨0, rfl, rfl⟩
    case round =>
      obtain ⟨i, hig, rfl⟩ := hrel
      rcases (show i = 0 ∨ i = 1 ∨ i = 2 by omega) with rfl | rfl | rfl
      · obtain rfl : gk = 2 := by omega
        go_wp2_with fail
        go_roundg 1
        case measure => omega
        case rel => exact ⟨1, rfl, rfl⟩
      · obtain rfl : gk = 1 := by omega
        go_wp2_with fail
        go_roundg 0
        case measure => omega
        case rel => exact ⟨2, rfl, rfl⟩
      · go_wp2_with fail
        go_ret
        exact ⟨rfl, (Ext.refl w).alloc _⟩
  · have q1 : decide (r < 128) = false := decide_eq_false (by omega)
    have q2 : decide (0 ≤ r) = true := decide_eq_true (by omega)
    have q3 : (r == 65533) = false := by rw [beq_eq_false_iff_ne]; exact h
    have c1 := fun w => Tryz.utf8_ValidRune r w
    have hvr : Lib.validRune r = true := by unfold Lib.validRune; exact decide_eq_true (by omega)
    rw [hvr] at c1
    have C1 := Lib.hid c1
    have hval : Utf8.valid r = true := by
      unfold Utf8.valid
      simp
      omega
    obtain ⟨f1, f2, f3⟩ := encode_facts r hval h1
    obtain ⟨rs, hrs⟩ : ∃ rs, Utf8.encode r = rs := ⟨_, rfl⟩
    rw [hrs] at f1 f2 f3
    have hL : ∀ h, (((⟨#[61, 10]⟩ : ByteArray)[1]'h).toNat : Int) = 10 := fun _ => rfl
    clear hval hvr c1 h hv
    by_cases hz : rs.size = 2
    · have hb := get_bt rs
      have hc : Hid (128 ≤ bt rs 1) := Lib.hid (by
        have h2 := f3 (by omega)
        have h3 := hb 1 (by omega)
        rw [← h3]
        have : rs.size - 1 = 1 := by omega
        simp only [this] at h2
        omega)
      have q4 : ((10 : Int) != bt rs 1) = true := by
        have := hc.out
        simp
        omega
      have hlt : 1 < rs.size := by omega
      have c2 := (fun w => idxByte_ext ByteArray.empty (bt rs 1) w)
      have e2 : (Lib.indexByte ByteArray.empty.data.toList (bt rs 1).toNat.toUInt8 = -1) := rfl
      rw [e2] at c2
      have C2 := Lib.hid c2
      clear e2 c2
      clear f1 f2 f3
      go_enter Tryz.func157, Tryz.ntmps157
      go_wp2_with fail
      refine (C1.out _).mono ?_; rintro e w1 ⟨rfl, hw1⟩; subst w1
      go_wp2_with fail
      go_step3
      go_wp2_with fail
      refine wp_loop_rounds 1 ?_
      rw [rounds_succ]
      go_wp2_with fail
      go_step3
      go_wp2_with fail
      refine wp_region_det (Stood _) (by kernel_rfl) (by kernel_rfl) (Stood.start _) ?_
      repeat (first
        | (refine det_skip (by rfl) ?_; simp only [Act.put, List.setIfInBounds_toArray, List.set_cons_zero, List.set_cons_succ])
        | (refine det_op (v := ?_) rfl (by rfl) (fun w' hS => ?_) ?_; rotate_left; (focus (obtain ⟨hcl, hxt⟩ := hS; go_wp2_with (fail); (first | refine ⟨?_, rfl, hcl, hxt⟩ | refine ⟨?_, rfl, Stood.of (hxt.trans (by assumption))⟩); (first | (simp only [List.getElem?_toArray, List.getElem?_cons_succ, List.getElem?_cons_zero]; rfl) | rfl))); simp only [Act.put, List.setIfInBounds_toArray, List.set_cons_zero, List.set_cons_succ]))
      refine det_end ?_
      intro w1 hS
      have hx1 := hS.2
      clear hS
      go_wp2_with fail
      refine wp_region_det (Stood _) (by kernel_rfl) (by kernel_rfl) (Stood.start _) ?_
      repeat (first
        | (refine det_skip (by rfl) ?_; simp only [Act.put, List.setIfInBounds_toArray, List.set_cons_zero, List.set_cons_succ])
        | (refine det_op (v := ?_) rfl (by rfl) (fun w' hS => ?_) ?_; rotate_left; (focus (obtain ⟨hcl, hxt⟩ := hS; go_wp2_with (first | ((with_reducible refine (C2.out _).mono ?_); rintro e w1 ⟨rfl, hx1⟩)); (first | refine ⟨?_, rfl, hcl, hxt⟩ | refine ⟨?_, rfl, Stood.of (hxt.trans (by assumption))⟩); (first | (simp only [List.getElem?_toArray, List.getElem?_cons_succ, List.getElem?_cons_zero]; rfl) | rfl))); simp only [Act.put, List.setIfInBounds_toArray, List.set_cons_zero, List.set_cons_succ]))
      refine det_end ?_
      intro w2 hS
      have hx2 := hS.2
      clear hS
      go_wp2_with fail
      rw [Exit.noGoto_ret]
      go_simp
      go_ret
      exact ⟨rfl, hx1.trans hx2⟩
    · have h3 : (2 : Int) ≤ (rs.size : Int) - 1 := by omega
      clear f3 hz
      go_enter Tryz.func157, Tryz.ntmps157
      go_wp2_with fail
      refine (C1.out _).mono ?_; rintro e w1 ⟨rfl, hw1⟩; subst w1
      go_wp2_with fail
      go_step3
      go_wp2_with fail
      refine wp_loop_rounds 1 ?_
      rw [rounds_succ]
      go_wp2_with fail
      rw [Exit.noGoto_ret]
      go_ret
      exact ⟨rfl, (by show Below _ _ _; repeat' (first | (with_reducible exact Below.refl _ _) | (with_reducible assumption) | (with_reducible refine belowDrewN ?_ _) | (with_reducible refine Below.alloc ?_ ?_ _) | (with_reducible refine Below.drew ?_) | (with_reducible refine Below.setCell ?_ ?_ _) | go_size))⟩

theorem noAny_of {cs : List UInt8} : ∀ {l : List UInt8}, Lib.indexAny l cs = -1 → Lib.NoAny l cs l.length
  | [], _ => fun j b hj _ => absurd hj (by simp)
  | y :: t, h => by
    rw [Lib.indexAny] at h
    cases hy : cs.contains y with
    | true => rw [hy] at h; simp at h
    | false =>
      rw [hy] at h
      have ht : Lib.indexAny t cs = -1 := by
        by_cases e : Lib.indexAny t cs = -1
        · exact e
        · have h2 := Lib.indexAny_ge cs t
          rw [if_neg (by decide), if_neg (by simpa using e)] at h
          omega
      have ih := noAny_of ht
      intro j b hj hb
      cases j with
      | zero => simp at hb; subst hb; exact hy
      | succ j => exact ih j b (by simpa using hj) (by simpa using hb)
theorem indexAny_two (l : List UInt8) : decide (0 ≤ Lib.indexAny l [61, 10]) = (decide (0 ≤ Lib.indexByte l 61) || decide (0 ≤ Lib.indexByte l 10)) := by
  rw [← Lib.contains_iff_indexByte, ← Lib.contains_iff_indexByte]
  by_cases h : Lib.NoAny l [61, 10] l.length
  · rw [Lib.indexAny_none h]
    have hc : ∀ x : UInt8, x = 61 ∨ x = 10 → l.contains x = false := fun x hx => by
      rw [Bool.eq_false_iff]
      intro hm
      rw [List.contains_iff_mem] at hm
      obtain ⟨j, hj, he⟩ := List.getElem_of_mem hm
      have := h j x hj (by rw [List.getElem?_eq_getElem hj, he])
      rcases hx with rfl | rfl <;> simp at this
    rw [hc 61 (.inl rfl), hc 10 (.inr rfl)]
    rfl
  · have : ∃ (i : Nat) (x : UInt8), l[i]? = some x ∧ (x = 61 ∨ x = 10) := by
      unfold Lib.NoAny at h
      simp only [Classical.not_forall] at h
      obtain ⟨j, b, _, hb, hc⟩ := h
      refine ⟨j, b, hb, ?_⟩
      simp at hc
      rcases Classical.em (b = 61) with h1 | h1
      · exact .inl h1
      · exact .inr (hc h1)
    obtain ⟨i, x, hi, hx⟩ := this
    obtain ⟨hl, he⟩ := List.getElem?_eq_some_iff.1 hi
    have hm : x ∈ l := he ▸ List.getElem_mem hl
    have hr : (l.contains 61 || l.contains 10) = true := by
      rcases hx with rfl | rfl
      · simp [hm]
      · simp [hm]
    rw [hr, decide_eq_true_eq]
    rcases Int.lt_or_le (Lib.indexAny l [61, 10]) 0 with h1 | h1
    · exfalso
      have h2 := Lib.indexAny_ge [61, 10] l
      have h3 : Lib.indexAny l [61, 10] = -1 := by omega
      exact h (noAny_of h3)
    · exact h1

theorem idxRune_low (b : UInt8) (hb : b.toNat < 128) (w : World) : Calls Tryz.prog 157 #[.string ⟨#[61, 10]⟩, .int .i32 (b.toNat : Int)] w fun e w' => e = .returned (.int .i64 (Lib.indexByte [61, 10] b)) ∧ Ext w w' :=
  (Tryz.strings_IndexRune_ascii ⟨#[61, 10]⟩ (b.toNat : Int) w (by omega) (by omega)).mono fun _ _ ⟨h, k⟩ => ⟨by rw [h]; simp, by rw [k]; exact Ext.refl _⟩

theorem ext_iterAt {w wr : World} (h : Ext w wr) (s : ByteArray) (pos : Nat) (B : Nat := w.heap.size) (hB : w.heap.size ≤ B := by exact Nat.le_refl _) : Ext w (wr.iterAt B s pos) := by
  refine ⟨h.os, h.tape, h.output, by simp only [World.iterAt, Array.size_setIfInBounds]; exact h.size, fun b hb => ?_⟩
  have hne : B ≠ b := by omega
  have e : (wr.iterAt B s pos).heap[b]? = wr.heap[b]? := by
    show (wr.heap.setIfInBounds B _)[b]? = _
    rw [Array.getElem?_setIfInBounds_ne hne]
  rw [e]
  exact h.below.block b hb

/-- Between two rounds of the loop over the characters. -/
def AnyRel (s : ByteArray) (w wr : World) (i : Nat) : Prop := wr.heap[w.heap.size]? = some (.stringIter s i) ∧ Ext w wr ∧ Hid (Lib.NoAny s.data.toList [61, 10] i)

set_option maxHeartbeats 8000000 in
set_option maxRecDepth 100000 in
theorem indexAny_short (s : ByteArray) (h8 : s.size ≤ 8) (w : World) : Calls Tryz.prog 144 #[.string s, .string ⟨#[61, 10]⟩] w fun e w' => e = .returned (.int .i64 (Lib.indexAny s.data.toList [61, 10])) ∧ Ext w w' := by
  have h8z : decide ((8 : Int) < (s.size : Int)) = false := decide_eq_false (by omega)
  have c1 := fun w => Tryz.strings_shouldUseASCIISet (s.size : Int) w
  rw [h8z] at c1
  have C1 := Lib.hid c1
  clear c1 h8z
  go_enter Tryz.func144, Tryz.ntmps144
  go_wp2_with fail
  refine (C1.out _).mono ?_; rintro e w1 ⟨rfl, hw1⟩; subst w1
  go_wp2_with fail
  go_loopg [9, 10] s.size (fun g _ _ wx => ∃ i : Nat, i ≤ s.size ∧ s.size ≤ i + g ∧ AnyRel s w wx i)
  case atStart => exact ⟨0, by omega, by omega, World.iter_heap w s 0, (Ext.refl w).alloc _, Lib.hid (Lib.NoAny.zero _ _)⟩
  case round =>
    obtain ⟨i, hi, hig, hk, hE, hno⟩ := hrel
    by_cases hlt : i < s.size
    · have hnx := fun ty => Lib.run_next_any_at (P := Tryz.prog) wr w.heap.size s i ty hk hlt
      have hnew := Lib.hid (Lib.iterAt_heap wr w.heap.size s i (i + (Utf8.decode s i).2) hk)
      have hEx : Ext w (wr.iterAt w.heap.size s (i + (Utf8.decode s i).2)) := ext_iterAt hE s (i + (Utf8.decode s i).2)
      have Hk := Lib.hid hk
      clear hk
      obtain ⟨g, rfl⟩ : ∃ g, gk = g + 1 := ⟨gk - 1, by omega⟩
      by_cases ha : (s[i]'hlt).toNat < 128
      · have hd := decode_ascii s i hlt ha
        rw [hd] at hnx hnew hEx
        obtain ⟨x, hx⟩ : ∃ x, s[i]'hlt = x := ⟨_, rfl⟩
        rw [hx] at hnx ha
        have hxl : Hid (s.data.toList[i]? = some x) := Lib.hid (by
          have h2 : i < s.data.toList.length := hlt
          rw [List.getElem?_eq_getElem h2, ← hx]
          rfl)
        have C2 := Lib.hid (fun w => idxRune_low x ha w)
        have hcon := Lib.contains_iff_indexByte [61, 10] x
        clear hd hx ha
        cases hin : ([61, 10] : List UInt8).contains x with
        | false =>
          rw [hin] at hcon
          have hq : decide (0 ≤ Lib.indexByte [61, 10] x) = false := hcon.symm
          have Hin := Lib.hid hin
          clear hcon hin
          generalize Lib.indexByte [61, 10] x = z at *
          go_wp2_with fail
          refine (C2.out _).mono ?_; rintro e w2 ⟨rfl, hx2⟩
          go_wp2_with fail
          go_roundg g
          case measure => omega
          case rel => exact ⟨i + 1, hlt, by omega, (hx2.below.block _ (by have := (Array.getElem?_eq_some_iff.1 hnew.out).1; exact this)).trans hnew.out, hEx.trans hx2, Lib.hid (hno.out.succ hxl.out Hin.out)⟩
        | true =>
          rw [hin] at hcon
          have hq : decide (0 ≤ Lib.indexByte [61, 10] x) = true := hcon.symm
          have Hin := Lib.hid hin
          clear hcon hin
          generalize Lib.indexByte [61, 10] x = z at *
          go_wp2_with fail
          refine (C2.out _).mono ?_; rintro e w2 ⟨rfl, hx2⟩
          go_wp2_with fail
          go_ret
          exact ⟨by rw [Lib.indexAny_hit hno.out hxl.out Hin.out]; rfl, hEx.trans hx2⟩
      · obtain ⟨d1, d2, d3, d4, d5⟩ := decode_skip s i hlt (by omega)
        have C2 := Lib.hid (fun w => idxRune_high _ d1 d2 w)
        have D5 := Lib.hid d5
        clear ha d5 d2
        generalize ((Utf8.decode s i).1 : Int) = c at *
        generalize (Utf8.decode s i).2 = d at *
        go_wp2_with fail
        refine (C2.out _).mono ?_; rintro e w2 ⟨rfl, hx2⟩
        go_wp2_with fail
        go_roundg g
        case measure => omega
        case rel => exact ⟨i + d, by omega, by omega, (hx2.below.block _ (by have := (Array.getElem?_eq_some_iff.1 hnew.out).1; exact this)).trans hnew.out, hEx.trans hx2, Lib.hid (D5.out hno.out)⟩
    · obtain rfl : i = s.size := by omega
      have hnx := fun ty => Lib.run_next_end_at (P := Tryz.prog) wr w.heap.size s s.size ty hk hlt
      go_wp2_with fail
      go_ret
      exact ⟨by rw [Lib.indexAny_none (s := s.data.toList) hno.out]; rfl, hE⟩

theorem zeroSetA : ∀ w, (zeroValue 216).run Tryz.prog w = .ok (.agg (Array.replicate 256 (.bool false))) w := fun w => by kernel_rfl
set_option maxRecDepth 100000 in
theorem indexAny_any (s : ByteArray) (hs : s.size < 4294967281) (w : World) : Calls Tryz.prog 144 #[.string s, .string ⟨#[61, 10]⟩] w fun e w' => e = .returned (.int .i64 (Lib.indexAny s.data.toList [61, 10])) ∧ Ext w w' := by
  by_cases h8 : s.size ≤ 8
  · exact indexAny_short s h8 w
  · have := Tryz.strings_IndexAny_long zeroSetA s ⟨#[61, 10]⟩ w (by decide) (by omega) hs (by decide) (fun j b hb => by
      rcases (show j = 0 ∨ j = 1 ∨ 2 ≤ j by omega) with rfl | rfl | hj
      · simp at hb; subst hb; decide
      · simp at hb; subst hb; decide
      · have hl : (⟨#[61, 10]⟩ : ByteArray).data.toList.length = 2 := rfl
        rw [List.getElem?_eq_none (by omega)] at hb
        cases hb)
    exact this.mono fun _ _ ⟨h, k⟩ => ⟨h, by rw [k]; exact ((Ext.refl w).alloc _).alloc _⟩
/-- Is one of the two among a text's bytes? -/
def anyB (s : ByteArray) : Bool := decide (0 ≤ Lib.indexByte s.data.toList 61) || decide (0 ≤ Lib.indexByte s.data.toList 10)
set_option maxRecDepth 100000 in
theorem containsAny_any (s : ByteArray) (hs : s.size < 4294967281) (w : World) : Calls Tryz.prog 109 #[.string s, .string ⟨#[61, 10]⟩] w fun e w' => e = .returned (.bool (anyB s)) ∧ Ext w w' := by
  have C1 := Lib.hid (fun w => indexAny_any s hs w)
  have e : Hid (anyB s = decide (0 ≤ Lib.indexAny s.data.toList [61, 10])) := Lib.hid (indexAny_two _).symm
  generalize Lib.indexAny s.data.toList [61, 10] = z at *
  go_enter Tryz.func109, Tryz.ntmps109
  go_wp2_with fail
  refine (C1.out _).mono ?_; rintro e w1 ⟨rfl, hx1⟩
  go_wp2_with fail
  go_ret
  exact ⟨ret_bool (by rw [e.out]), hx1⟩
end Go.Proofs.YtnbcbipigiopbaaGreatDoor
/-
  When a pair is valid: pax.Right and the reference's PairRight.
-/
namespace Go.Proofs.YtnbcbipigiopbaaGreatDoor
open Go.RowKit

/-- A pair is valid. -/
def pairB (k v : ByteArray) : Bool := !k.toList.isEmpty && !anyB k && decide ((k.size : Int) + v.size ≤ 200)
theorem emptyB_size (k : ByteArray) : decide (0 < (k.size : Int)) = !k.toList.isEmpty := by
  rw [ByteArray.toList_eq]
  have e : k.size = k.data.toList.length := rfl
  rw [e]
  cases k.data.toList <;> simp

set_option maxHeartbeats 1600000 in
set_option maxRecDepth 100000 in
theorem paxRight_any (k v : ByteArray) (hk : k.size ≤ 4611686018427387) (hv : v.size ≤ 4611686018427387) (hk2 : k.size < 4294967281) (w : World) : Calls Tryz.prog 56 #[.agg #[.string k, .string v]] w fun e w' => e = .returned (.bool (pairB k v)) ∧ Ext w w' := by
  have c1 := fun w => containsAny_any k hk2 w
  have hd : Hid (pairB k v = (!k.toList.isEmpty && !anyB k && decide ((k.size : Int) + v.size ≤ 200))) := Lib.hid rfl
  generalize anyB k = a at *
  have C1 := Lib.hid c1
  clear c1 hk2
  cases he : k.toList.isEmpty with
  | true =>
    have He := Lib.hid he
    have he2 : (!k.toList.isEmpty) = false := by rw [he]; rfl
    go_enter Tryz.func56, Tryz.ntmps56
    go_wp2_with fail
    go_ret
    exact ⟨ret_bool (by rw [hd.out, He.out]; simp), (by show Below _ _ _; repeat' (first | (with_reducible exact Below.refl _ _) | (with_reducible assumption) | (with_reducible refine belowDrewN ?_ _) | (with_reducible refine Below.alloc ?_ ?_ _) | (with_reducible refine Below.drew ?_) | (with_reducible refine Below.setCell ?_ ?_ _) | go_size))⟩
  | false =>
    have He := Lib.hid he
    have he2 : (!k.toList.isEmpty) = true := by rw [he]; rfl
    cases a with
    | true =>
      go_enter Tryz.func56, Tryz.ntmps56
      go_wp2_with fail
      refine (C1.out _).mono ?_; rintro e w1 ⟨rfl, hx1⟩
      go_wp2_with fail
      go_ret
      exact ⟨ret_bool (by rw [hd.out]; simp), Ext.trans (by show Below _ _ _; repeat' (first | (with_reducible exact Below.refl _ _) | (with_reducible assumption) | (with_reducible refine belowDrewN ?_ _) | (with_reducible refine Below.alloc ?_ ?_ _) | (with_reducible refine Below.drew ?_) | (with_reducible refine Below.setCell ?_ ?_ _) | go_size)) hx1⟩
    | false =>
      go_enter Tryz.func56, Tryz.ntmps56
      go_wp2_with fail
      refine (C1.out _).mono ?_; rintro e w1 ⟨rfl, hx1⟩
      have g0 : w1.cell? ⟨w.heap.size, 0, none⟩ = some (.string k) := hx1.cell (by simp)
      have g1 : w1.cell? ⟨w.heap.size, 1, none⟩ = some (.string v) := hx1.cell (by simp)
      have gl : w.heap.size < w1.heap.size := World.block_lt_of_cell? w1 _ g0
      go_wp2_with fail
      go_ret
      exact ⟨ret_bool (by rw [hd.out, He.out]; simp), Ext.trans (by show Below _ _ _; repeat' (first | (with_reducible exact Below.refl _ _) | (with_reducible assumption) | (with_reducible refine belowDrewN ?_ _) | (with_reducible refine Below.alloc ?_ ?_ _) | (with_reducible refine Below.drew ?_) | (with_reducible refine Below.setCell ?_ ?_ _) | go_size)) hx1⟩

theorem idxByte_e (s : ByteArray) (c : Int) (z : Int) (hz : Lib.indexByte s.data.toList c.toNat.toUInt8 = z) (w : World) : Calls Tryz.prog 38 #[.string s, .int .u8 c] w fun e w' => e = .returned (.int .i64 z) ∧ w' = w := by
  have := Tryz.strings_IndexByte s c w
  rw [hz] at this
  exact this
set_option maxHeartbeats 1600000 in
set_option maxRecDepth 100000 in
theorem pairRight_any (k v : ByteArray) (hk : k.size ≤ 4611686018427387) (hv : v.size ≤ 4611686018427387) (w : World) : Calls Tryz.prog 99 #[.agg #[.string k, .string v]] w fun e w' => e = .returned (.bool (pairB k v)) ∧ Ext w w' := by
  obtain ⟨x, hx⟩ : ∃ x, Lib.indexByte k.data.toList 61 = x := ⟨_, rfl⟩
  obtain ⟨y, hy⟩ : ∃ y, Lib.indexByte k.data.toList 10 = y := ⟨_, rfl⟩
  have C1 := Lib.hid (fun w => idxByte_e k 61 x hx w)
  have C2 := Lib.hid (fun w => idxByte_e k 10 y hy w)
  have hd : Hid (pairB k v = (decide (0 < (k.size : Int)) && !(decide (0 ≤ x) || decide (0 ≤ y)) && decide ((k.size : Int) + v.size ≤ 200))) := Lib.hid (by unfold pairB anyB; rw [emptyB_size, hx, hy])
  clear hx hy
  by_cases h0 : 0 < (k.size : Int)
  · have q0 : decide (0 < (k.size : Int)) = true := decide_eq_true h0
    have q0n : decide (0 < k.size) = true := decide_eq_true (by omega)
    by_cases h2 : (k.size : Int) + v.size ≤ 200
    · have q2 : decide ((k.size : Int) + v.size ≤ 200) = true := decide_eq_true h2
      rcases (show (0 ≤ x) ∨ (x < 0 ∧ 0 ≤ y) ∨ (x < 0 ∧ y < 0) by omega) with q1 | ⟨q1, q3⟩ | ⟨q1, q3⟩
      · have q4 : decide (x < 0) = false := decide_eq_false (by omega)
        have Hf : Hid (pairB k v = false) := Lib.hid (by rw [hd.out, q0, q2, decide_eq_true q1]; rfl)
        clear h0 h2 q1
        go_enter Tryz.func99, Tryz.ntmps99
        go_wp2_with (first | ((with_reducible refine (C1.out _).mono ?_); rintro e w' ⟨rfl, hw⟩; subst w') | ((with_reducible refine (C2.out _).mono ?_); rintro e w' ⟨rfl, hw⟩; subst w'))
        go_ret
        exact ⟨ret_bool (by rw [Hf.out]), (by show Below _ _ _; repeat' (first | (with_reducible exact Below.refl _ _) | (with_reducible assumption) | (with_reducible refine belowDrewN ?_ _) | (with_reducible refine Below.alloc ?_ ?_ _) | (with_reducible refine Below.drew ?_) | (with_reducible refine Below.setCell ?_ ?_ _) | go_size))⟩
      · have q4 : decide (x < 0) = true := decide_eq_true q1
        have q5 : decide (y < 0) = false := decide_eq_false (by omega)
        have Hf : Hid (pairB k v = false) := Lib.hid (by rw [hd.out, q0, q2, decide_eq_true q3]; simp)
        clear h0 h2 q1 q3
        go_enter Tryz.func99, Tryz.ntmps99
        go_wp2_with (first | ((with_reducible refine (C1.out _).mono ?_); rintro e w' ⟨rfl, hw⟩; subst w') | ((with_reducible refine (C2.out _).mono ?_); rintro e w' ⟨rfl, hw⟩; subst w'))
        go_ret
        exact ⟨ret_bool (by rw [Hf.out]), (by show Below _ _ _; repeat' (first | (with_reducible exact Below.refl _ _) | (with_reducible assumption) | (with_reducible refine belowDrewN ?_ _) | (with_reducible refine Below.alloc ?_ ?_ _) | (with_reducible refine Below.drew ?_) | (with_reducible refine Below.setCell ?_ ?_ _) | go_size))⟩
      · have q4 : decide (x < 0) = true := decide_eq_true q1
        have q5 : decide (y < 0) = true := decide_eq_true q3
        have Hf : Hid (pairB k v = true) := Lib.hid (by rw [hd.out, q0, q2, decide_eq_false (show ¬ 0 ≤ x by omega), decide_eq_false (show ¬ 0 ≤ y by omega)]; rfl)
        clear h0 h2 q1 q3
        go_enter Tryz.func99, Tryz.ntmps99
        go_wp2_with (first | ((with_reducible refine (C1.out _).mono ?_); rintro e w' ⟨rfl, hw⟩; subst w') | ((with_reducible refine (C2.out _).mono ?_); rintro e w' ⟨rfl, hw⟩; subst w'))
        go_ret
        exact ⟨ret_bool (by rw [Hf.out]), (by show Below _ _ _; repeat' (first | (with_reducible exact Below.refl _ _) | (with_reducible assumption) | (with_reducible refine belowDrewN ?_ _) | (with_reducible refine Below.alloc ?_ ?_ _) | (with_reducible refine Below.drew ?_) | (with_reducible refine Below.setCell ?_ ?_ _) | go_size))⟩
    · have q2 : decide ((k.size : Int) + v.size ≤ 200) = false := decide_eq_false h2
      have Hf : Hid (pairB k v = false) := Lib.hid (by rw [hd.out, q0, q2]; simp)
      clear h0 h2
      go_enter Tryz.func99, Tryz.ntmps99
      go_wp2_with fail
      go_ret
      exact ⟨ret_bool (by rw [Hf.out]), (by show Below _ _ _; repeat' (first | (with_reducible exact Below.refl _ _) | (with_reducible assumption) | (with_reducible refine belowDrewN ?_ _) | (with_reducible refine Below.alloc ?_ ?_ _) | (with_reducible refine Below.drew ?_) | (with_reducible refine Below.setCell ?_ ?_ _) | go_size))⟩
  · have q0 : decide (0 < (k.size : Int)) = false := decide_eq_false h0
    have q0n : decide (0 < k.size) = false := decide_eq_false (by omega)
    have Hf : Hid (pairB k v = false) := Lib.hid (by rw [hd.out, q0]; rfl)
    clear h0
    go_enter Tryz.func99, Tryz.ntmps99
    go_wp2_with fail
    go_ret
    exact ⟨ret_bool (by rw [Hf.out]), (by show Below _ _ _; repeat' (first | (with_reducible exact Below.refl _ _) | (with_reducible assumption) | (with_reducible refine belowDrewN ?_ _) | (with_reducible refine Below.alloc ?_ ?_ _) | (with_reducible refine Below.drew ?_) | (with_reducible refine Below.setCell ?_ ?_ _) | go_size))⟩
end Go.Proofs.YtnbcbipigiopbaaGreatDoor
