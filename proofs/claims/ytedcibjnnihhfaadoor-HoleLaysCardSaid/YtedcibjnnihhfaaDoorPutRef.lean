/-
  The reference's MapPut.
-/
import Derived.Test.YtedcibjnnihhfaaDoorPut
import Derived.Test.YtedcibjnnihhfaaDoorHoleMap
import Derived.Test.YtedcibjnnihhfaaDoorShelf
import Derived.Test.YtedcibjnnihhfaaDoorDet
namespace Go.Proofs.YtedcibjnnihhfaaDoor
open Go.RowKit Go.WideShapes

theorem rep0 (c : Nat) (h1 : c ≤ 1000000) (w : World) : Calls Tryd.prog 45 #[.string ⟨#[0]⟩, .int .i64 (c : Int)] w fun e w' => e = .returned (.string ⟨(List.replicate c (0 : UInt8)).toArray⟩) ∧ Ext w w' := by
  have := Tryd.strings_Repeat ⟨#[0]⟩ c w (by omega) (by show 1 * _ ≤ _; omega)
  have e := Lib.repeatL_replicate 0 1 c
  have e2 : Lib.repeatL (⟨#[0]⟩ : ByteArray).data.toList c = List.replicate c 0 := by
    show Lib.repeatL [0] c = _
    rw [show [(0 : UInt8)] = List.replicate 1 0 from rfl, e, Nat.mul_one]
  rw [e2] at this
  exact this

/-- Between two rounds of MapPut. -/
def PutRel2 (d : ByteArray) (n : Nat) (A S : Nat → Int) (w : World) (dv out i : Value) (wr : World) : Prop :=
  ∃ (k : Nat) (t o : ByteArray), k ≤ n ∧ dv = .string t ∧ out = .string o ∧ i = .int .i64 (k : Int) ∧ t.size ≤ 600 ∧ Hid (t.data.toList = d.data.toList.drop (sN S k)) ∧ Hid (o.data.toList = outL d.data.toList A S k) ∧ Ext w wr

set_option maxHeartbeats 4000000 in
set_option maxRecDepth 100000 in
theorem mapPut_good (w : World) (d : ByteArray) (v : Value) (n : Nat) (A S : Nat → Int) (z : Nat) (hd : d.size ≤ 600) (h : IsPieces w v n A S) (hB : holeB n A S z = true) (hS : (d.size : Int) = sumW S n) (hz : z ≤ 4000) :
    Calls Tryd.prog 14 #[.string d, v, .int .i64 (z : Int)] w fun e w' => e = .returned (.tuple #[.string ⟨(rowP d.data.toList A S z n).toArray⟩, .int .i64 0]) ∧ Ext w w' := by
  have c1 := fun w1 (hE : Ext w w1) => mapRight_any w1 v n A S z (by omega) (h.ext hE)
  rw [hB] at c1
  have C1 := Lib.hid c1
  have C2 := Lib.hid (fun w1 (hE : Ext w w1) => mapSize_any w1 v n A S (h.ext hE))
  have hp : ∀ j, j < n → pieceB A S z j = true := fun j hj => holeB_pieces hB hj
  have hsum : sN S n = d.data.toList.length := by
    have h1 := sumW_sN (A := A) (size := z) (by omega) (by omega) n hp
    have h2 : d.data.toList.length = d.size := rfl
    omega
  have Hp := Lib.hid hp
  have Hsum := Lib.hid hsum
  have q1 : (sumW S n != (d.size : Int)) = false := by rw [hS]; simp
  have q2 : decide ((4000 : Int) < (z : Int)) = false := decide_eq_false (by omega)
  clear c1 hB hS hp hsum
  generalize sumW S n = sm at *
  rcases h with ⟨⟨a0, c0, rfl⟩, rfl⟩ | ⟨b, off, cap, rfl, hn, hc⟩
  · have C3 := Lib.hid (fun w => rep0 z (by omega) w)
    have hrow : Hid (rowP d.data.toList A S z 0 = List.replicate z 0) := Lib.hid (rowP_zero _ _ _ _)
    have hR : (⟨(List.replicate z (0 : UInt8)).toArray⟩ : ByteArray).size ≤ 4000 := by
      show (List.replicate z (0 : UInt8)).toArray.size ≤ 4000
      simpa using hz
    generalize hRR : (⟨(List.replicate z (0 : UInt8)).toArray⟩ : ByteArray) = R at *
    have HRR := Lib.hid hRR
    clear hRR
    go_enter Tryd.func14, Tryd.ntmps14
    go_wp2_with fail
    refine (C1.out _ (Ext.refl _)).mono ?_; rintro e w1 ⟨rfl, hx1⟩
    go_wp2_with fail
    refine (C2.out _ hx1).mono ?_; rintro e w2 ⟨rfl, hx2⟩
    have hy2 := hx1.trans hx2
    go_wp2_with fail
    refine wp_loop_rounds 1 ?_
    rw [rounds_succ]
    go_wp2_with fail
    refine (C3.out _).mono ?_; rintro e w3 ⟨rfl, hx3⟩
    go_wp2_with fail
    go_ret2
    exact ⟨ret_val (by rw [hrow.out, HRR.out]; first | rfl | simp), hy2.trans hx3⟩
  · have Hc := Lib.hid hc
    clear hc
    go_enter Tryd.func14, Tryd.ntmps14
    go_wp2_with fail
    refine (C1.out _ (Ext.refl _)).mono ?_; rintro e w1 ⟨rfl, hx1⟩
    go_wp2_with fail
    refine (C2.out _ hx1).mono ?_; rintro e w2 ⟨rfl, hx2⟩
    have hy2 := hx1.trans hx2
    go_wp2_with fail
    go_loopw [0, 8, 26] (fun dv o i wr => PutRel2 d n A S w dv o i wr) (fun _ _ i _ => n - (intOf i).toNat)
    case atStart => exact ⟨0, d, ⟨#[]⟩, Nat.zero_le _, rfl, rfl, rfl, hd, Lib.hid rfl, Lib.hid rfl, hy2⟩
    case round =>
      obtain ⟨k, t, o, hk, rfl, rfl, rfl, ht6, hrel, hout, hE⟩ := hrel
      by_cases hlt : k < n
      · have g1 := hE.cell (Hc.out k hlt).1
        have g2 := hE.cell (Hc.out k hlt).2
        have hpk := piece_split (Hp.out k hlt)
        have hah := piece_ahead (Hp.out k hlt) (fun j hj => Hp.out j (by omega))
        obtain ⟨a, ha⟩ := Int.eq_ofNat_of_zero_le hpk.2.1
        obtain ⟨s, hs⟩ := Int.eq_ofNat_of_zero_le (show 0 ≤ S k by omega)
        have hsn : sN S (k + 1) ≤ d.data.toList.length := by rw [← Hsum.out]; exact sN_mono S hlt
        have hsk : sN S (k + 1) = sN S k + s := by simp only [sN]; omega
        obtain ⟨p1, p2, p3, p4⟩ := piece_take (n := s) hrel.out (by omega)
        have hol := outL_len d.data.toList k (fun j hj => Hp.out j (by omega)) (by omega)
        have hos : o.size = endN A S k := by rw [← hol, ← hout.out]; rfl
        have hoa : o.size ≤ a := by omega
        have C3 := Lib.hid (fun w => rep0 (a - o.size) (by omega) w)
        have e3 : ((a - o.size : Nat) : Int) = (a : Int) - (o.size : Int) := by omega
        rw [e3] at C3
        have hnew : Hid ((o ++ ((⟨(List.replicate (a - o.size) (0 : UInt8)).toArray⟩ : ByteArray) ++ t.extract 0 s)).data.toList = outL d.data.toList A S (k + 1)) := Lib.hid (by
          have e4 : (A k).toNat = a := by omega
          have e5 : (S k).toNat = s := by omega
          simp only [outL]
          rw [hol, ← hos, e4, e5, ← hout.out, ← p2]
          simp)
        have hR : (⟨(List.replicate (a - o.size) (0 : UInt8)).toArray⟩ : ByteArray).size ≤ 4000 := by
          show (List.replicate (a - o.size) (0 : UInt8)).toArray.size ≤ 4000
          simp; omega
        generalize (⟨(List.replicate (a - o.size) (0 : UInt8)).toArray⟩ : ByteArray) = R at *
        rw [ha] at g1
        rw [hs] at g2
        have i3 : (s : Int) ≤ t.size := by omega
        have i4 : o.size ≤ 4000 := by omega
        have i5 : (t.extract 0 s).size ≤ 600 := by omega
        have lb : b < wr.heap.size := World.block_lt_of_cell? wr _ g1
        have P4 := Lib.hid p4
        have Hsk := Lib.hid hsk
        have i6 : wrap64 ((a : Int) - (o.size : Int)) = (a : Int) - (o.size : Int) := IntWalk.wrap64_in _ ⟨by omega, by omega⟩
        clear p2 p3 p4 ha hs hsn hsk hpk hol hos e3 hah
        go_wp2_with fail
        refine wp_region_det (Stood _) (by kernel_rfl) (by kernel_rfl) (Stood.start _) ?_
        repeat (first
          | (refine det_skip (by rfl) ?_; simp only [Act.put, List.setIfInBounds_toArray, List.set_cons_zero, List.set_cons_succ])
          | (refine det_op (v := ?_) rfl (by rfl) (fun w' hS => ?_) ?_; rotate_left; (focus (obtain ⟨hcl, hxt⟩ := hS; go_wp2_with (first | ((with_reducible refine (C3.out _).mono ?_); rintro e w1 ⟨rfl, hx1⟩)); (first | refine ⟨?_, rfl, hcl, hxt⟩ | refine ⟨?_, rfl, Stood.of (hxt.trans (by assumption))⟩); (first | (simp only [List.getElem?_toArray, List.getElem?_cons_succ, List.getElem?_cons_zero]; rfl) | rfl))); simp only [Act.put, List.setIfInBounds_toArray, List.set_cons_zero, List.set_cons_succ]))
        refine det_end ?_
        intro w3 hS
        have hx3 := hS.2
        clear hS
        have e1 : w3.cell? ⟨wr.heap.size, 1, none⟩ = some (.int .i64 (s : Int)) := hx3.cell (by simp)
        have hsz4 : wr.heap.size < w3.heap.size := World.block_lt_of_cell? w3 _ e1
        go_wp2_with fail
        go_roundw
        case rel => exact ⟨k + 1, _, _, hlt, rfl, rfl, by go_num, by rw [ByteArray.size_extract]; omega, Lib.hid (by rw [P4.out, Hsk.out]), hnew, hE.trans (Ext.trans (by show Below _ _ _; repeat' (first | (with_reducible exact Below.refl _ _) | (with_reducible assumption) | (with_reducible refine belowDrewN ?_ _) | (with_reducible refine Below.alloc ?_ ?_ _) | (with_reducible refine Below.drew ?_) | (with_reducible refine Below.setCell ?_ ?_ _) | go_size)) hx3)⟩
        case measure => simp [intOf]; omega
      · obtain rfl : k = n := by omega
        have hol := outL_len d.data.toList k Hp.out (by rw [Hsum.out]; exact Nat.le_refl _)
        have hel := endN_le (size := (z : Int)) (by omega) Hp.out
        have hos : o.size = endN A S k := by rw [← hol, ← hout.out]; rfl
        have hoz : o.size ≤ z := by omega
        have C3 := Lib.hid (fun w => rep0 (z - o.size) (by omega) w)
        have e3 : ((z - o.size : Nat) : Int) = (z : Int) - (o.size : Int) := by omega
        rw [e3] at C3
        have hnew : Hid ((o ++ (⟨(List.replicate (z - o.size) (0 : UInt8)).toArray⟩ : ByteArray)) = ⟨(rowP d.data.toList A S z k).toArray⟩) := Lib.hid (by
          apply ByteArray.ext
          rw [← Array.toList_inj]
          unfold rowP
          rw [hol, ← hos, ← hout.out]
          simp)
        have hR : (⟨(List.replicate (z - o.size) (0 : UInt8)).toArray⟩ : ByteArray).size ≤ 4000 := by
          show (List.replicate (z - o.size) (0 : UInt8)).toArray.size ≤ 4000
          simp; omega
        generalize (⟨(List.replicate (z - o.size) (0 : UInt8)).toArray⟩ : ByteArray) = R at *
        have i4 : o.size ≤ 4000 := by omega
        clear hol hel hos e3
        go_wp2_with fail
        refine (C3.out _).mono ?_; rintro e w3 ⟨rfl, hx3⟩
        go_wp2_with fail
        go_ret2
        exact ⟨ret_val (by rw [← hnew.out]; rfl), hE.trans hx3⟩

set_option maxHeartbeats 4000000 in
set_option maxRecDepth 100000 in
theorem mapPut_any (w : World) (d : ByteArray) (v : Value) (n : Nat) (A S : Nat → Int) (size : Int) (hd : d.size ≤ 600) (hs : size ≤ 9223372036854775807) (h : IsPieces w v n A S) :
    Calls Tryd.prog 14 #[.string d, v, .int .i64 size] w fun e w' => e = .returned (.tuple #[.string (putV d n A S size), .int .i64 (putE d.size n A S size)]) ∧ Ext w w' := by
  have hl : ∃ a cap, v = .slice a n cap := by
    rcases h with ⟨⟨a0, c0, rfl⟩, rfl⟩ | ⟨b, off, cap, rfl, hn, _⟩
    · exact ⟨_, _, rfl⟩
    · exact ⟨_, _, rfl⟩
  have c1 := fun w1 (hE : Ext w w1) => mapRight_any w1 v n A S size hs (h.ext hE)
  cases hB : holeB n A S size with
  | false =>
    have hE : putE d.size n A S size = 1 := by unfold putE; rw [hB]; rfl
    have ev : Hid (putV d n A S size = ⟨#[]⟩ ∧ putE d.size n A S size = 1) := Lib.hid ⟨by unfold putV; rw [hE]; rfl, hE⟩
    rw [hB] at c1
    have C1 := Lib.hid c1
    obtain ⟨a, cap, rfl⟩ := hl
    clear c1 hE hB h
    go_enter Tryd.func14, Tryd.ntmps14
    go_wp2_with fail
    refine (C1.out _ (Ext.refl _)).mono ?_; rintro e w1 ⟨rfl, hx1⟩
    go_wp2_with fail
    go_ret2
    exact ⟨ret_val (by rw [ev.out.1, ev.out.2]; rfl), hx1⟩
  | true =>
    have C2 := Lib.hid (fun w1 (hE : Ext w w1) => mapSize_any w1 v n A S (h.ext hE))
    by_cases hS : (d.size : Int) = sumW S n
    · have h0 : 0 ≤ size := by
        unfold holeB at hB
        simp only [Bool.and_eq_true, decide_eq_true_eq] at hB
        exact hB.1.1
      by_cases h4 : 4000 < size
      · have hE : putE d.size n A S size = 4 := by unfold putE; rw [hB, hS, if_pos h4]; simp
        have ev : Hid (putV d n A S size = ⟨#[]⟩ ∧ putE d.size n A S size = 4) := Lib.hid ⟨by unfold putV; rw [hE]; rfl, hE⟩
        have q1 : (sumW S n != (d.size : Int)) = false := by rw [hS]; simp
        have q2 : decide ((4000 : Int) < size) = true := decide_eq_true h4
        rw [hB] at c1
        have C1 := Lib.hid c1
        obtain ⟨a, cap, rfl⟩ := hl
        clear c1 hE hB hS h
        generalize sumW S n = sm at *
        go_enter Tryd.func14, Tryd.ntmps14
        go_wp2_with fail
        refine (C1.out _ (Ext.refl _)).mono ?_; rintro e w1 ⟨rfl, hx1⟩
        go_wp2_with fail
        refine (C2.out _ hx1).mono ?_; rintro e w2 ⟨rfl, hx2⟩
        go_wp2_with fail
        go_ret2
        exact ⟨ret_val (by rw [ev.out.1, ev.out.2]; rfl), hx1.trans hx2⟩
      · obtain ⟨z, rfl⟩ := Int.eq_ofNat_of_zero_le h0
        have hE : putE d.size n A S z = 0 := by unfold putE; rw [hB, hS, if_neg h4]; simp
        have hV : putV d n A S z = ⟨(rowP d.data.toList A S z n).toArray⟩ := by unfold putV; rw [hE]; rfl
        rw [hV, hE]
        exact mapPut_good w d v n A S z hd h hB hS (by omega)
    · have hE : putE d.size n A S size = 1 := by unfold putE; rw [hB, if_neg (by simpa using hS)]
      have ev : Hid (putV d n A S size = ⟨#[]⟩ ∧ putE d.size n A S size = 1) := Lib.hid ⟨by unfold putV; rw [hE]; rfl, hE⟩
      have q1 : (sumW S n != (d.size : Int)) = true := by simp; omega
      rw [hB] at c1
      have C1 := Lib.hid c1
      obtain ⟨a, cap, rfl⟩ := hl
      clear c1 hE hB hS h
      generalize sumW S n = sm at *
      go_enter Tryd.func14, Tryd.ntmps14
      go_wp2_with fail
      refine (C1.out _ (Ext.refl _)).mono ?_; rintro e w1 ⟨rfl, hx1⟩
      go_wp2_with fail
      refine (C2.out _ hx1).mono ?_; rintro e w2 ⟨rfl, hx2⟩
      go_wp2_with fail
      go_ret2
      exact ⟨ret_val (by rw [ev.out.1, ev.out.2]; rfl), hx1.trans hx2⟩
end Go.Proofs.YtedcibjnnihhfaaDoor
