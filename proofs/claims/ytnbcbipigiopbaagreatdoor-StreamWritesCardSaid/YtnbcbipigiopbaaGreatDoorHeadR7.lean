/-
  The reference's HeadWrite: its walk in the case v7 (written by headref.py). No conditions but the parts' bounds.
-/
import Derived.Test.YtnbcbipigiopbaaGreatDoorPkE
namespace Go.Proofs.YtnbcbipigiopbaaGreatDoor
open Go.RowKit Go.WideShapes Go.PlainAid

set_option maxHeartbeats 8000000 in
set_option maxRecDepth 100000 in
theorem refHW_v7 (nm lk : ByteArray) (kd md ui gi sz tm : Int) (w : World) (hk0 : 0 ≤ kd) (hk1 : kd < 256) (hk : (kd == 0) = false)
    (p0 p1 p2 p4 t0 t1 t2 t3 t4 mg : ByteArray) (h0 h1 h2 h4 j0 j1 j2 j3 j4 : Bool) (b0 : p0.size ≤ 200) (b1 : p1.size ≤ 200) (b2 : p2.size ≤ 200) (b4 : p4.size ≤ 200) (c0 : t0.size ≤ 20) (c1 : t1.size ≤ 20) (c2 : t2.size ≤ 20) (c3 : t3.size ≤ 20) (c4 : t4.size ≤ 20) (hmg : mg.size ≤ 8) (zmg : magicV 1 = mg)
    (C : ∀ W0 B, Below w.heap.size w W0 → w.heap.size + 1 < B → W0.heap[w.heap.size]? = some (.cells #[.int .i64 1] 3 (0, 0)) →
      TextC W0 B nm 100 p0 h0 ∧ TextC W0 B lk 100 p1 h1 ∧ TextC W0 B ⟨#[]⟩ 32 p2 h2 ∧ TextC W0 B ⟨#[]⟩ 155 p4 h4 ∧ NumC W0 w.heap.size B md 8 t0 j0 ∧ NumC W0 w.heap.size B ui 8 t1 j1 ∧ NumC W0 w.heap.size B gi 8 t2 j2 ∧ NumC W0 w.heap.size B sz 12 t3 j3 ∧ NumC W0 w.heap.size B tm 12 t4 j4) :
    Calls Tryz.prog 49 #[.int .i64 1, .agg #[.string nm, .string lk, .string ⟨#[]⟩, .string ⟨#[]⟩, .string ⟨#[]⟩, .int .u8 kd, .int .i64 md, .int .i64 ui, .int .i64 gi, .int .i64 sz, .int .i64 tm, .int .i64 0, .int .i64 0]] w fun e w' => e = .returned (if ((((((((((false || h0) || j0) || j1) || j2) || j3) || j4) || h1) || h2) || h2) || h4) then .tuple #[.string ⟨#[]⟩, .int .i64 2] else .tuple #[.string (sealS (headS kd z16V true p0 p1 p2 p2 p4 t0 t1 t2 t3 t4 ⟨#[]⟩ ⟨#[]⟩ mg)), .int .i64 (sumE (headS kd z16V true p0 p1 p2 p2 p4 t0 t1 t2 t3 t4 ⟨#[]⟩ ⟨#[]⟩ mg))]) ∧ Ext w w' := by
  obtain ⟨V, hV⟩ : ∃ V, V = (if ((((((((((false || h0) || j0) || j1) || j2) || j3) || j4) || h1) || h2) || h2) || h4) then Value.tuple #[.string ⟨#[]⟩, .int .i64 2] else .tuple #[.string (sealS (headS kd z16V true p0 p1 p2 p2 p4 t0 t1 t2 t3 t4 ⟨#[]⟩ ⟨#[]⟩ mg)), .int .i64 (sumE (headS kd z16V true p0 p1 p2 p2 p4 t0 t1 t2 t3 t4 ⟨#[]⟩ ⟨#[]⟩ mg))]) := ⟨_, rfl⟩
  rw [← hV]
  obtain ⟨fl, hfl⟩ : ∃ fl : Bool, fl = ((((((((((false || h0) || j0) || j1) || j2) || j3) || j4) || h1) || h2) || h2) || h4) := ⟨_, rfl⟩
  rw [← hfl, show (headS kd z16V true p0 p1 p2 p2 p4 t0 t1 t2 t3 t4 ⟨#[]⟩ ⟨#[]⟩ mg) = ((p0 ++ t0 ++ t1 ++ t2 ++ t3 ++ t4 ++ ⟨#[32, 32, 32, 32, 32, 32, 32, 32]⟩ ++ ⟨#[UInt8.ofNat kd.toNat]⟩ ++ p1 ++ mg ++ p2 ++ p2) ++ z16V) ++ (p4 ++ z12V) by unfold headS; rw [if_pos rfl]] at hV
  obtain ⟨S, hS⟩ : ∃ S : ByteArray, S = (((p0 ++ t0 ++ t1 ++ t2 ++ t3 ++ t4 ++ ⟨#[32, 32, 32, 32, 32, 32, 32, 32]⟩ ++ ⟨#[UInt8.ofNat kd.toNat]⟩ ++ p1 ++ mg ++ p2 ++ p2) ++ z16V) ++ (p4 ++ z12V)) := ⟨_, rfl⟩
  have hsz : S.size ≤ 100000 := by
    rw [hS]
    have l8 : (⟨#[32, 32, 32, 32, 32, 32, 32, 32]⟩ : ByteArray).size = 8 := rfl
    have l1 : (⟨#[UInt8.ofNat kd.toNat]⟩ : ByteArray).size = 1 := rfl
    have l16 : z16V.size = 16 := by decide
    have l12 : z12V.size = 12 := by decide
    simp only [ByteArray.size_append, l8, l1, l16, l12]
    omega
  have CL := fun w => refSeal_any S w hsz
  rw [← hS] at hV
  clear hsz
  subst hS
  have CL := Lib.hid CL
  have HV := Lib.hid hV
  have HF := Lib.hid hfl
  clear hV hfl
  have w4 := fun w => within_yes' (n := 1) (low := 1) (high := 4) (by omega) (by omega) w
  have qe : ((⟨#[]⟩ : ByteArray) ++ ⟨#[]⟩ ++ ⟨#[]⟩).toList.isEmpty = true := by decide +kernel
  have CM := Lib.hid (fun w => magic_any 1 (by omega) (by omega) w)
  rw [zmg] at CM

  have CH := Lib.hid (fun w => char_any kd hk0 hk1 w)
  have R16 := Lib.hid rep16
  have R12 := Lib.hid rep12
  have z16s : z16V.size ≤ 16 := by decide
  have z12s : z12V.size ≤ 12 := by decide
  have e3 := three w (.cells #[.int .i64 1] 3) (.cells #[.string nm, .string lk, .string ⟨#[]⟩, .string ⟨#[]⟩, .string ⟨#[]⟩, .int .u8 kd, .int .i64 md, .int .i64 ui, .int .i64 gi, .int .i64 sz, .int .i64 tm, .int .i64 0, .int .i64 0] 59) (.cells #[.bool true] 4)
  have hC := C (((w.alloc (.cells #[.int .i64 1] 3)).alloc (.cells #[.string nm, .string lk, .string ⟨#[]⟩, .string ⟨#[]⟩, .string ⟨#[]⟩, .int .u8 kd, .int .i64 md, .int .i64 ui, .int .i64 gi, .int .i64 sz, .int .i64 tm, .int .i64 0, .int .i64 0] 59)).alloc (.cells #[.bool true] 4)) (w.heap.size + 1 + 1) (by show Below _ _ _; repeat' (first | (with_reducible exact Below.refl _ _) | (with_reducible assumption) | (with_reducible refine belowDrewN ?_ _) | (with_reducible refine Below.alloc ?_ ?_ _) | (with_reducible refine Below.drew ?_) | (with_reducible refine Below.setCell ?_ ?_ _) | go_size)) (by omega) e3.1
  have hst : HS (((w.alloc (.cells #[.int .i64 1] 3)).alloc (.cells #[.string nm, .string lk, .string ⟨#[]⟩, .string ⟨#[]⟩, .string ⟨#[]⟩, .int .u8 kd, .int .i64 md, .int .i64 ui, .int .i64 gi, .int .i64 sz, .int .i64 tm, .int .i64 0, .int .i64 0] 59)).alloc (.cells #[.bool true] 4)) (w.heap.size + 1 + 1) false (((w.alloc (.cells #[.int .i64 1] 3)).alloc (.cells #[.string nm, .string lk, .string ⟨#[]⟩, .string ⟨#[]⟩, .string ⟨#[]⟩, .int .u8 kd, .int .i64 md, .int .i64 ui, .int .i64 gi, .int .i64 sz, .int .i64 tm, .int .i64 0, .int .i64 0] 59)).alloc (.cells #[.bool true] 4)).drew := ⟨e3.2.2, (Below.refl _ _).drew⟩
  have hsz : (((w.alloc (.cells #[.int .i64 1] 3)).alloc (.cells #[.string nm, .string lk, .string ⟨#[]⟩, .string ⟨#[]⟩, .string ⟨#[]⟩, .int .u8 kd, .int .i64 md, .int .i64 ui, .int .i64 gi, .int .i64 sz, .int .i64 tm, .int .i64 0, .int .i64 0] 59)).alloc (.cells #[.bool true] 4)).heap.size = w.heap.size + 3 := by simp
  have hxw : Ext w (((w.alloc (.cells #[.int .i64 1] 3)).alloc (.cells #[.string nm, .string lk, .string ⟨#[]⟩, .string ⟨#[]⟩, .string ⟨#[]⟩, .int .u8 kd, .int .i64 md, .int .i64 ui, .int .i64 gi, .int .i64 sz, .int .i64 tm, .int .i64 0, .int .i64 0] 59)).alloc (.cells #[.bool true] 4)) := (by show Below _ _ _; repeat' (first | (with_reducible exact Below.refl _ _) | (with_reducible assumption) | (with_reducible refine belowDrewN ?_ _) | (with_reducible refine Below.alloc ?_ ?_ _) | (with_reducible refine Below.drew ?_) | (with_reducible refine Below.setCell ?_ ?_ _) | go_size))
  have ce : ∀ W, Below (w.heap.size + 1 + 1) (((w.alloc (.cells #[.int .i64 1] 3)).alloc (.cells #[.string nm, .string lk, .string ⟨#[]⟩, .string ⟨#[]⟩, .string ⟨#[]⟩, .int .u8 kd, .int .i64 md, .int .i64 ui, .int .i64 gi, .int .i64 sz, .int .i64 tm, .int .i64 0, .int .i64 0] 59)).alloc (.cells #[.bool true] 4)) W → W.cell? ⟨w.heap.size, 0, none⟩ = some (.int .i64 1) ∧ W.cell? ⟨w.heap.size + 1, 0, none⟩ = some (.string nm) ∧ W.cell? ⟨w.heap.size + 1, 1, none⟩ = some (.string lk) ∧ W.cell? ⟨w.heap.size + 1, 2, none⟩ = some (.string ⟨#[]⟩) ∧ W.cell? ⟨w.heap.size + 1, 3, none⟩ = some (.string ⟨#[]⟩) ∧ W.cell? ⟨w.heap.size + 1, 4, none⟩ = some (.string ⟨#[]⟩) ∧ W.cell? ⟨w.heap.size + 1, 5, none⟩ = some (.int .u8 kd) ∧ W.cell? ⟨w.heap.size + 1, 6, none⟩ = some (.int .i64 md) ∧ W.cell? ⟨w.heap.size + 1, 7, none⟩ = some (.int .i64 ui) ∧ W.cell? ⟨w.heap.size + 1, 8, none⟩ = some (.int .i64 gi) ∧ W.cell? ⟨w.heap.size + 1, 9, none⟩ = some (.int .i64 sz) ∧ W.cell? ⟨w.heap.size + 1, 10, none⟩ = some (.int .i64 tm) ∧ W.cell? ⟨w.heap.size + 1, 11, none⟩ = some (.int .i64 0) ∧ W.cell? ⟨w.heap.size + 1, 12, none⟩ = some (.int .i64 0) := fun W hW => ⟨(hW.cell (p := ⟨w.heap.size, 0, none⟩) (by show w.heap.size < _; omega)).trans (cell_at e3.1 rfl), (hW.cell (p := ⟨w.heap.size + 1, 0, none⟩) (by show w.heap.size + 1 < _; omega)).trans (cell_at e3.2.1 rfl), (hW.cell (p := ⟨w.heap.size + 1, 1, none⟩) (by show w.heap.size + 1 < _; omega)).trans (cell_at e3.2.1 rfl), (hW.cell (p := ⟨w.heap.size + 1, 2, none⟩) (by show w.heap.size + 1 < _; omega)).trans (cell_at e3.2.1 rfl), (hW.cell (p := ⟨w.heap.size + 1, 3, none⟩) (by show w.heap.size + 1 < _; omega)).trans (cell_at e3.2.1 rfl), (hW.cell (p := ⟨w.heap.size + 1, 4, none⟩) (by show w.heap.size + 1 < _; omega)).trans (cell_at e3.2.1 rfl), (hW.cell (p := ⟨w.heap.size + 1, 5, none⟩) (by show w.heap.size + 1 < _; omega)).trans (cell_at e3.2.1 rfl), (hW.cell (p := ⟨w.heap.size + 1, 6, none⟩) (by show w.heap.size + 1 < _; omega)).trans (cell_at e3.2.1 rfl), (hW.cell (p := ⟨w.heap.size + 1, 7, none⟩) (by show w.heap.size + 1 < _; omega)).trans (cell_at e3.2.1 rfl), (hW.cell (p := ⟨w.heap.size + 1, 8, none⟩) (by show w.heap.size + 1 < _; omega)).trans (cell_at e3.2.1 rfl), (hW.cell (p := ⟨w.heap.size + 1, 9, none⟩) (by show w.heap.size + 1 < _; omega)).trans (cell_at e3.2.1 rfl), (hW.cell (p := ⟨w.heap.size + 1, 10, none⟩) (by show w.heap.size + 1 < _; omega)).trans (cell_at e3.2.1 rfl), (hW.cell (p := ⟨w.heap.size + 1, 11, none⟩) (by show w.heap.size + 1 < _; omega)).trans (cell_at e3.2.1 rfl), (hW.cell (p := ⟨w.heap.size + 1, 12, none⟩) (by show w.heap.size + 1 < _; omega)).trans (cell_at e3.2.1 rfl)⟩
  have CE := Lib.hid ce
  obtain ⟨P0, P1, P2, P4, N0, N1, N2, N3, N4⟩ := hC
  clear C ce e3 zmg
  have P0 := Lib.hid P0
  have P1 := Lib.hid P1
  have P2 := Lib.hid P2
  have P4 := Lib.hid P4
  have N0 := Lib.hid N0
  have N1 := Lib.hid N1
  have N2 := Lib.hid N2
  have N3 := Lib.hid N3
  have N4 := Lib.hid N4
  go_enter Tryz.func49, Tryz.ntmps49
  go_wp2_with (first | ((with_reducible refine (w4 _).mono ?_); rintro e w' ⟨rfl, hw⟩; subst w'))
  have hkm : kd % 256 = kd := by omega
  generalize (((w.alloc (.cells #[.int .i64 1] 3)).alloc (.cells #[.string nm, .string lk, .string ⟨#[]⟩, .string ⟨#[]⟩, .string ⟨#[]⟩, .int .u8 kd, .int .i64 md, .int .i64 ui, .int .i64 gi, .int .i64 sz, .int .i64 tm, .int .i64 0, .int .i64 0] 59)).alloc (.cells #[.bool true] 4)) = W0 at *
  refine wp_region_detF (HS W0 (w.heap.size + 1 + 1)) false (by kernel_rfl) (by kernel_rfl) hst ?_
  repeat (first
    | (refine detF_skip (by rfl) ?_; simp only [Act.put, List.setIfInBounds_toArray, List.set_cons_zero, List.set_cons_succ])
    | (refine detF_plain (v := ?_) rfl (by rfl) (fun bq w9 hS => ?_) ?_; rotate_left; (focus (have hbl := hS.2; have hgl := hS.1.lt; have hlt1 : w.heap.size < w9.heap.size := (by omega); have hlt2 : w.heap.size + 1 < w9.heap.size := (by omega); obtain ⟨g0, g1, g2, g3, g4, g5, g6, g7, g8, g9, ga, gb, gc, gd⟩ := CE.out _ hbl; go_wp2_with fail; refine ⟨?_, rfl, hS⟩; (first | (simp only [List.getElem?_toArray, List.getElem?_cons_succ, List.getElem?_cons_zero]; rfl) | rfl))); simp only [Act.put, List.setIfInBounds_toArray, List.set_cons_zero, List.set_cons_succ])
    | (refine detF_op ?_ ?_ rfl (by rfl) (fun bq w9 hS => ?_) ?_; rotate_left 2; (focus (have hbl := hS.2; have hgl := hS.1.lt; have hlt1 : w.heap.size < w9.heap.size := (by omega); have hlt2 : w.heap.size + 1 < w9.heap.size := (by omega); obtain ⟨g0, g1, g2, g3, g4, g5, g6, g7, g8, g9, ga, gb, gc, gd⟩ := CE.out _ hbl; go_wp2_with (first | ((with_reducible refine (P0.out _ _ hS).mono ?_); rintro e w1 ⟨rfl, hS1⟩) | ((with_reducible refine (P1.out _ _ hS).mono ?_); rintro e w1 ⟨rfl, hS1⟩) | ((with_reducible refine (P2.out _ _ hS).mono ?_); rintro e w1 ⟨rfl, hS1⟩) | ((with_reducible refine (P4.out _ _ hS).mono ?_); rintro e w1 ⟨rfl, hS1⟩) | ((with_reducible refine (N0.out _ _ hS).mono ?_); rintro e w1 ⟨rfl, hS1⟩) | ((with_reducible refine (N1.out _ _ hS).mono ?_); rintro e w1 ⟨rfl, hS1⟩) | ((with_reducible refine (N2.out _ _ hS).mono ?_); rintro e w1 ⟨rfl, hS1⟩) | ((with_reducible refine (N3.out _ _ hS).mono ?_); rintro e w1 ⟨rfl, hS1⟩) | ((with_reducible refine (N4.out _ _ hS).mono ?_); rintro e w1 ⟨rfl, hS1⟩)); refine ⟨?_, rfl, ?_⟩; rotate_left; assumption; (first | (simp only [List.getElem?_toArray, List.getElem?_cons_succ, List.getElem?_cons_zero]; rfl) | rfl))); simp only [Act.put, List.setIfInBounds_toArray, List.set_cons_zero, List.set_cons_succ])
    | (refine detF_plain (v := ?_) rfl (by rfl) (fun bq w9 hS => ?_) ?_; rotate_left; (focus (have hbl := hS.2; have hgl := hS.1.lt; have hlt1 : w.heap.size < w9.heap.size := (by omega); have hlt2 : w.heap.size + 1 < w9.heap.size := (by omega); obtain ⟨g0, g1, g2, g3, g4, g5, g6, g7, g8, g9, ga, gb, gc, gd⟩ := CE.out _ hbl; go_wp2_with (first | ((with_reducible refine (CH.out _).mono ?_); rintro e w1 ⟨rfl, hx1⟩) | ((with_reducible refine (CM.out _).mono ?_); rintro e w1 ⟨rfl, hx1⟩)); refine ⟨?_, rfl, hS.ext (by assumption)⟩; (first | (simp only [List.getElem?_toArray, List.getElem?_cons_succ, List.getElem?_cons_zero]; rfl) | rfl))); simp only [Act.put, List.setIfInBounds_toArray, List.set_cons_zero, List.set_cons_succ]))
  refine detF_end ?_
  intro w3 hS3
  obtain ⟨hS3a, hS3b⟩ : HS W0 (w.heap.size + 1 + 1) (((((((((false || h0) || j0) || j1) || j2) || j3) || j4) || h1) || h2) || h2) w3 ∧ True := ⟨hS3, trivial⟩
  obtain ⟨g0, g1, g2, g3, g4, g5, g6, g7, g8, g9, ga, gb, gc, gd⟩ := CE.out _ hS3a.2
  go_wp2_with fail
  refine (R16.out _).mono ?_; rintro e w4 ⟨rfl, hx4⟩
  have hS4 := hS3a.ext hx4
  obtain ⟨g0, g1, g2, g3, g4, g5, g6, g7, g8, g9, ga, gb, gc, gd⟩ := CE.out _ hS4.2
  go_wp2_with fail
  refine (P4.out _ _ hS4).mono ?_; rintro e w5 ⟨rfl, hS5⟩
  go_wp2_with fail
  refine (R12.out _).mono ?_; rintro e w6 ⟨rfl, hx6⟩
  have hS6 := hS5.ext hx6
  rw [← HF.out] at hS6
  have hc6 := hS6.1.cell
  have hx7 : Ext w w6 := Below.trans (B := w.heap.size) hxw (below_le (by omega) hS6.2)
  cases fl with
  | true =>
    rw [if_pos rfl] at HV
    go_wp2_with fail
    go_ret2
    exact ⟨ret_val (by rw [HV.out]; rfl), hx7⟩
  | false =>
    rw [if_neg (by decide)] at HV
    go_wp2_with fail
    refine (CL.out _).mono ?_; rintro e w7 ⟨rfl, hx8⟩
    go_wp2_with fail
    go_ret2
    exact ⟨ret_val (by rw [HV.out]; rfl), hx7.trans hx8⟩
end Go.Proofs.YtnbcbipigiopbaaGreatDoor
