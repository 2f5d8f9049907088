/-
  member.Write and the reference's EntryWrite: what may not be, and the ways to Gnu and Pax; the law's plainOf. No conditions but the arguments' bounds.
-/
import Derived.Test.YtnbcbipigiopbaaGreatDoorMwO
import Derived.Test.YtnbcbipigiopbaaGreatDoorPkC
namespace Go.Proofs.YtnbcbipigiopbaaGreatDoor
open Go.RowKit Go.WideShapes

set_option maxHeartbeats 4000000 in
set_option maxRecDepth 100000 in
theorem writeArg_any (e : Ent) (ok : e.Ok) (A S : Nat → Int) (w : World) (hp : IsPieces w (.slice e.pa e.pn e.pc) e.pn A S) (d : Int) (hd : d < 1 ∨ 4 < d ∨ memB e.kd e.md e.ui e.gi e.sz e.ts e.tn e.ma e.mi e.nm e.lk e.us e.gr e.dt e.pn A S = false) :
    Calls Tryz.prog 18 #[.int .i64 d, .agg #[.string e.nm, .int .u8 e.kd, .int .i64 e.md, .int .i64 e.ui, .int .i64 e.gi, .int .i64 e.sz, .int .i64 e.ts, .int .i64 e.tn, .string e.lk, .string e.us, .string e.gr, .int .i64 e.ma, .int .i64 e.mi, .string e.dt, .slice e.pa e.pn e.pc]] w fun x w' => x = .returned (.tuple #[.string ⟨#[]⟩, errOf 1]) ∧ Ext w w' := by
  have h6 := ok.pn
  rw [errOf_ne (by decide)]
  by_cases h1 : d < 1
  · as_aux_lemma =>
      have q1 : decide (d < 1) = true := decide_eq_true h1
      clear hp hd h1
      go_enter Tryz.func18, Tryz.ntmps18
      go_wp2_with fail
      go_ret2
      exact ⟨rfl, (by show Below _ _ _; repeat' (first | (with_reducible exact Below.refl _ _) | (with_reducible assumption) | (with_reducible refine belowDrewN ?_ _) | (with_reducible refine Below.alloc ?_ ?_ _) | (with_reducible refine Below.drew ?_) | (with_reducible refine Below.setCell ?_ ?_ _) | go_size))⟩
  · by_cases h4 : 4 < d
    · as_aux_lemma =>
        have q1 : decide (d < 1) = false := decide_eq_false h1
        have q2 : decide (4 < d) = true := decide_eq_true h4
        clear hp hd h1 h4
        go_enter Tryz.func18, Tryz.ntmps18
        go_wp2_with fail
        go_ret2
        exact ⟨rfl, (by show Below _ _ _; repeat' (first | (with_reducible exact Below.refl _ _) | (with_reducible assumption) | (with_reducible refine belowDrewN ?_ _) | (with_reducible refine Below.alloc ?_ ?_ _) | (with_reducible refine Below.drew ?_) | (with_reducible refine Below.setCell ?_ ?_ _) | go_size))⟩
    · as_aux_lemma =>
        have hmem : memB e.kd e.md e.ui e.gi e.sz e.ts e.tn e.ma e.mi e.nm e.lk e.us e.gr e.dt e.pn A S = false := by
          rcases hd with h | h | h
          · omega
          · omega
          · exact h
        have c1 := fun W (hE : Ext w W) => memRight_any e ok A S W (hp.ext hE)
        rw [hmem] at c1
        have C1 := Lib.hid c1
        have q1 : decide (d < 1) = false := decide_eq_false h1
        have q2 : decide (4 < d) = false := decide_eq_false h4
        clear hp hd h1 h4 c1 hmem
        go_enter Tryz.func18, Tryz.ntmps18
        go_wp2_with fail
        refine (C1.out _ ((Ext.refl _).alloc _)).mono ?_; rintro x w1 ⟨rfl, hx1⟩
        go_wp2_with fail
        go_ret2
        exact ⟨rfl, Ext.trans ((Ext.refl w).alloc _) hx1⟩
set_option maxHeartbeats 4000000 in
set_option maxRecDepth 100000 in
theorem refArg_any (e : Ent) (ok : e.Ok) (A S : Nat → Int) (w : World) (hp : IsPieces w (.slice e.pa e.pn e.pc) e.pn A S) (d : Int) (hd : d < 1 ∨ 4 < d ∨ memB e.kd e.md e.ui e.gi e.sz e.ts e.tn e.ma e.mi e.nm e.lk e.us e.gr e.dt e.pn A S = false) :
    Calls Tryz.prog 17 #[.int .i64 d, .agg #[.string e.nm, .int .u8 e.kd, .int .i64 e.md, .int .i64 e.ui, .int .i64 e.gi, .int .i64 e.sz, .int .i64 e.ts, .int .i64 e.tn, .string e.lk, .string e.us, .string e.gr, .int .i64 e.ma, .int .i64 e.mi, .string e.dt, .slice e.pa e.pn e.pc]] w fun x w' => x = .returned (.tuple #[.string ⟨#[]⟩, .int .i64 1]) ∧ Ext w w' := by
  have h6 := ok.pn
  have c0 := fun w => within_rng d 1 4 w
  by_cases h1 : d < 1 ∨ 4 < d
  · as_aux_lemma =>
      rw [show rngB d 1 4 = false by unfold rngB; simp; omega] at c0
      have C0 := Lib.hid c0
      clear hp hd h1 c0
      go_enter Tryz.func17, Tryz.ntmps17
      go_wp2_with ((with_reducible refine (C0.out _).mono ?_); rintro x w0 ⟨rfl, rfl⟩)
      go_ret2
      exact ⟨rfl, (by show Below _ _ _; repeat' (first | (with_reducible exact Below.refl _ _) | (with_reducible assumption) | (with_reducible refine belowDrewN ?_ _) | (with_reducible refine Below.alloc ?_ ?_ _) | (with_reducible refine Below.drew ?_) | (with_reducible refine Below.setCell ?_ ?_ _) | go_size))⟩
  · as_aux_lemma =>
      have hmem : memB e.kd e.md e.ui e.gi e.sz e.ts e.tn e.ma e.mi e.nm e.lk e.us e.gr e.dt e.pn A S = false := by
        rcases hd with h | h | h
        · omega
        · omega
        · exact h
      rw [show rngB d 1 4 = true by unfold rngB; simp; omega] at c0
      have C0 := Lib.hid c0
      have c1 := fun W (hE : Ext w W) => entRight_any e ok A S W (hp.ext hE)
      rw [hmem] at c1
      have C1 := Lib.hid c1
      clear hp hd h1 c1 hmem c0
      go_enter Tryz.func17, Tryz.ntmps17
      go_wp2_with ((with_reducible refine (C0.out _).mono ?_); rintro x w0 ⟨rfl, rfl⟩)
      refine (C1.out _ ((Ext.refl _).alloc _)).mono ?_; rintro x w1 ⟨rfl, hx1⟩
      go_wp2_with fail
      go_ret2
      exact ⟨rfl, Ext.trans ((Ext.refl w).alloc _) hx1⟩

set_option maxHeartbeats 4000000 in
set_option maxRecDepth 100000 in
theorem writeGnu_sw (e : Ent) (ok : e.Ok) (A S : Nat → Int) (w : World) (hp : IsPieces w (.slice e.pa e.pn e.pc) e.pn A S) (hmem : memB e.kd e.md e.ui e.gi e.sz e.ts e.tn e.ma e.mi e.nm e.lk e.us e.gr e.dt e.pn A S = true) (s : ByteArray) (k : Value)
    (c2 : ∀ W, Ext w W → Calls Tryz.prog 40 #[.agg #[.string e.nm, .int .u8 e.kd, .int .i64 e.md, .int .i64 e.ui, .int .i64 e.gi, .int .i64 e.sz, .int .i64 e.ts, .int .i64 e.tn, .string e.lk, .string e.us, .string e.gr, .int .i64 e.ma, .int .i64 e.mi, .string e.dt, .slice e.pa e.pn e.pc]] W fun x w' => x = .returned (.tuple #[.string s, k]) ∧ Ext W w') :
    Calls Tryz.prog 18 #[.int .i64 3, .agg #[.string e.nm, .int .u8 e.kd, .int .i64 e.md, .int .i64 e.ui, .int .i64 e.gi, .int .i64 e.sz, .int .i64 e.ts, .int .i64 e.tn, .string e.lk, .string e.us, .string e.gr, .int .i64 e.ma, .int .i64 e.mi, .string e.dt, .slice e.pa e.pn e.pc]] w fun x w' => x = .returned (.tuple #[.string s, k]) ∧ Ext w w' := by
  have h6 := ok.pn
  have c1 := fun W (hE : Ext w W) => memRight_any e ok A S W (hp.ext hE)
  rw [hmem] at c1
  have C1 := Lib.hid c1
  have C2 := Lib.hid c2
  clear hp hmem c1 c2
  go_enter Tryz.func18, Tryz.ntmps18
  go_wp2_with fail
  refine (C1.out _ ((Ext.refl _).alloc _)).mono ?_; rintro x w1 ⟨rfl, hx1⟩
  have hw1 := Ext.trans ((Ext.refl w).alloc _) hx1
  obtain ⟨⟨g10, g11, g12, g13, g14, g15, g16, g17, g18, g19, g110, g111, g112, g113, g114⟩, gl1⟩ := ent_box e hx1
  go_wp2_with fail
  refine (C2.out _ hw1).mono ?_; rintro x w2 ⟨rfl, hx2⟩
  go_wp2_with fail
  go_ret2
  exact ⟨rfl, hw1.trans hx2⟩
set_option maxHeartbeats 4000000 in
set_option maxRecDepth 100000 in
theorem refGnu_sw (e : Ent) (ok : e.Ok) (A S : Nat → Int) (w : World) (hp : IsPieces w (.slice e.pa e.pn e.pc) e.pn A S) (hmem : memB e.kd e.md e.ui e.gi e.sz e.ts e.tn e.ma e.mi e.nm e.lk e.us e.gr e.dt e.pn A S = true) (_hdt : e.dt.size ≤ 4009) (s : ByteArray) (k : Value)
    (c2 : ∀ W, Ext w W → Calls Tryz.prog 35 #[.agg #[.string ⟨#[]⟩, .string ⟨#[]⟩, .string e.us, .string e.gr, .string ⟨#[]⟩, .int .u8 e.kd, .int .i64 e.md, .int .i64 e.ui, .int .i64 e.gi, .int .i64 (e.dt.size : Int), .int .i64 e.ts, .int .i64 e.ma, .int .i64 e.mi], .agg #[.string e.nm, .int .u8 e.kd, .int .i64 e.md, .int .i64 e.ui, .int .i64 e.gi, .int .i64 e.sz, .int .i64 e.ts, .int .i64 e.tn, .string e.lk, .string e.us, .string e.gr, .int .i64 e.ma, .int .i64 e.mi, .string e.dt, .slice e.pa e.pn e.pc], .string (namB e.kd e.nm)] W fun x w' => x = .returned (.tuple #[.string s, k]) ∧ Ext W w') :
    Calls Tryz.prog 17 #[.int .i64 3, .agg #[.string e.nm, .int .u8 e.kd, .int .i64 e.md, .int .i64 e.ui, .int .i64 e.gi, .int .i64 e.sz, .int .i64 e.ts, .int .i64 e.tn, .string e.lk, .string e.us, .string e.gr, .int .i64 e.ma, .int .i64 e.mi, .string e.dt, .slice e.pa e.pn e.pc]] w fun x w' => x = .returned (.tuple #[.string s, k]) ∧ Ext w w' := by
  have h6 := ok.pn
  have hnm : e.nm.size ≤ 120 := by have := (memOk hmem).nm; omega
  have C0 := Lib.hid (fun w => within_rng 3 1 4 w)
  rw [show rngB 3 1 4 = true from rfl] at C0
  have c1 := fun W (hE : Ext w W) => entRight_any e ok A S W (hp.ext hE)
  rw [hmem] at c1
  have C1 := Lib.hid c1
  clear hp hmem c1
  by_cases h53 : e.kd = 53
  · rw [show namB e.kd e.nm = e.nm ++ ⟨#[47]⟩ by rw [h53, namB_dir]] at c2
    have q : (e.kd == 53) = true := by simp [h53]
    have C2 := Lib.hid c2
    clear c2 h53
    go_enter Tryz.func17, Tryz.ntmps17
    go_wp2_with ((with_reducible refine (C0.out _).mono ?_); rintro x w0 ⟨rfl, rfl⟩)
    refine (C1.out _ ((Ext.refl _).alloc _)).mono ?_; rintro x w1 ⟨rfl, hx1⟩
    have hw1 := Ext.trans ((Ext.refl w).alloc _) hx1
    obtain ⟨⟨g10, g11, g12, g13, g14, g15, g16, g17, g18, g19, g110, g111, g112, g113, g114⟩, gl1⟩ := ent_box e hx1
    go_wp2_with fail
    refine (C2.out _ (hw1.alloc _)).mono ?_; rintro x w2 ⟨rfl, hx2⟩
    go_wp2_with fail
    go_ret2
    exact ⟨rfl, (hw1.alloc _).trans hx2⟩
  · rw [namB_else _ h53] at c2
    have q : (e.kd == 53) = false := by simp [h53]
    have C2 := Lib.hid c2
    clear c2 h53
    go_enter Tryz.func17, Tryz.ntmps17
    go_wp2_with ((with_reducible refine (C0.out _).mono ?_); rintro x w0 ⟨rfl, rfl⟩)
    refine (C1.out _ ((Ext.refl _).alloc _)).mono ?_; rintro x w1 ⟨rfl, hx1⟩
    have hw1 := Ext.trans ((Ext.refl w).alloc _) hx1
    obtain ⟨⟨g10, g11, g12, g13, g14, g15, g16, g17, g18, g19, g110, g111, g112, g113, g114⟩, gl1⟩ := ent_box e hx1
    go_wp2_with fail
    refine (C2.out _ (hw1.alloc _)).mono ?_; rintro x w2 ⟨rfl, hx2⟩
    go_wp2_with fail
    go_ret2
    exact ⟨rfl, (hw1.alloc _).trans hx2⟩

set_option maxHeartbeats 4000000 in
set_option maxRecDepth 100000 in
theorem writePax_sw (e : Ent) (ok : e.Ok) (A S : Nat → Int) (w : World) (hp : IsPieces w (.slice e.pa e.pn e.pc) e.pn A S) (hmem : memB e.kd e.md e.ui e.gi e.sz e.ts e.tn e.ma e.mi e.nm e.lk e.us e.gr e.dt e.pn A S = true) (s : ByteArray) (k : Value)
    (c2 : ∀ W, Ext w W → Calls Tryz.prog 41 #[.agg #[.string e.nm, .int .u8 e.kd, .int .i64 e.md, .int .i64 e.ui, .int .i64 e.gi, .int .i64 e.sz, .int .i64 e.ts, .int .i64 e.tn, .string e.lk, .string e.us, .string e.gr, .int .i64 e.ma, .int .i64 e.mi, .string e.dt, .slice e.pa e.pn e.pc]] W fun x w' => x = .returned (.tuple #[.string s, k]) ∧ Ext W w') :
    Calls Tryz.prog 18 #[.int .i64 4, .agg #[.string e.nm, .int .u8 e.kd, .int .i64 e.md, .int .i64 e.ui, .int .i64 e.gi, .int .i64 e.sz, .int .i64 e.ts, .int .i64 e.tn, .string e.lk, .string e.us, .string e.gr, .int .i64 e.ma, .int .i64 e.mi, .string e.dt, .slice e.pa e.pn e.pc]] w fun x w' => x = .returned (.tuple #[.string s, k]) ∧ Ext w w' := by
  have h6 := ok.pn
  have c1 := fun W (hE : Ext w W) => memRight_any e ok A S W (hp.ext hE)
  rw [hmem] at c1
  have C1 := Lib.hid c1
  have C2 := Lib.hid c2
  clear hp hmem c1 c2
  go_enter Tryz.func18, Tryz.ntmps18
  go_wp2_with fail
  refine (C1.out _ ((Ext.refl _).alloc _)).mono ?_; rintro x w1 ⟨rfl, hx1⟩
  have hw1 := Ext.trans ((Ext.refl w).alloc _) hx1
  obtain ⟨⟨g10, g11, g12, g13, g14, g15, g16, g17, g18, g19, g110, g111, g112, g113, g114⟩, gl1⟩ := ent_box e hx1
  go_wp2_with fail
  refine (C2.out _ hw1).mono ?_; rintro x w2 ⟨rfl, hx2⟩
  go_wp2_with fail
  go_ret2
  exact ⟨rfl, hw1.trans hx2⟩
set_option maxHeartbeats 4000000 in
set_option maxRecDepth 100000 in
theorem refPax_sw (e : Ent) (ok : e.Ok) (A S : Nat → Int) (w : World) (hp : IsPieces w (.slice e.pa e.pn e.pc) e.pn A S) (hmem : memB e.kd e.md e.ui e.gi e.sz e.ts e.tn e.ma e.mi e.nm e.lk e.us e.gr e.dt e.pn A S = true) (_hdt : e.dt.size ≤ 4009) (s : ByteArray) (k : Value)
    (c2 : ∀ W, Ext w W → Calls Tryz.prog 36 #[.agg #[.string ⟨#[]⟩, .string ⟨#[]⟩, .string e.us, .string e.gr, .string ⟨#[]⟩, .int .u8 e.kd, .int .i64 e.md, .int .i64 e.ui, .int .i64 e.gi, .int .i64 (e.dt.size : Int), .int .i64 e.ts, .int .i64 e.ma, .int .i64 e.mi], .agg #[.string e.nm, .int .u8 e.kd, .int .i64 e.md, .int .i64 e.ui, .int .i64 e.gi, .int .i64 e.sz, .int .i64 e.ts, .int .i64 e.tn, .string e.lk, .string e.us, .string e.gr, .int .i64 e.ma, .int .i64 e.mi, .string e.dt, .slice e.pa e.pn e.pc], .string (namB e.kd e.nm)] W fun x w' => x = .returned (.tuple #[.string s, k]) ∧ Ext W w') :
    Calls Tryz.prog 17 #[.int .i64 4, .agg #[.string e.nm, .int .u8 e.kd, .int .i64 e.md, .int .i64 e.ui, .int .i64 e.gi, .int .i64 e.sz, .int .i64 e.ts, .int .i64 e.tn, .string e.lk, .string e.us, .string e.gr, .int .i64 e.ma, .int .i64 e.mi, .string e.dt, .slice e.pa e.pn e.pc]] w fun x w' => x = .returned (.tuple #[.string s, k]) ∧ Ext w w' := by
  have h6 := ok.pn
  have hnm : e.nm.size ≤ 120 := by have := (memOk hmem).nm; omega
  have C0 := Lib.hid (fun w => within_rng 4 1 4 w)
  rw [show rngB 4 1 4 = true from rfl] at C0
  have c1 := fun W (hE : Ext w W) => entRight_any e ok A S W (hp.ext hE)
  rw [hmem] at c1
  have C1 := Lib.hid c1
  clear hp hmem c1
  by_cases h53 : e.kd = 53
  · rw [show namB e.kd e.nm = e.nm ++ ⟨#[47]⟩ by rw [h53, namB_dir]] at c2
    have q : (e.kd == 53) = true := by simp [h53]
    have C2 := Lib.hid c2
    clear c2 h53
    go_enter Tryz.func17, Tryz.ntmps17
    go_wp2_with ((with_reducible refine (C0.out _).mono ?_); rintro x w0 ⟨rfl, rfl⟩)
    refine (C1.out _ ((Ext.refl _).alloc _)).mono ?_; rintro x w1 ⟨rfl, hx1⟩
    have hw1 := Ext.trans ((Ext.refl w).alloc _) hx1
    obtain ⟨⟨g10, g11, g12, g13, g14, g15, g16, g17, g18, g19, g110, g111, g112, g113, g114⟩, gl1⟩ := ent_box e hx1
    go_wp2_with fail
    refine (C2.out _ (hw1.alloc _)).mono ?_; rintro x w2 ⟨rfl, hx2⟩
    go_wp2_with fail
    go_ret2
    exact ⟨rfl, (hw1.alloc _).trans hx2⟩
  · rw [namB_else _ h53] at c2
    have q : (e.kd == 53) = false := by simp [h53]
    have C2 := Lib.hid c2
    clear c2 h53
    go_enter Tryz.func17, Tryz.ntmps17
    go_wp2_with ((with_reducible refine (C0.out _).mono ?_); rintro x w0 ⟨rfl, rfl⟩)
    refine (C1.out _ ((Ext.refl _).alloc _)).mono ?_; rintro x w1 ⟨rfl, hx1⟩
    have hw1 := Ext.trans ((Ext.refl w).alloc _) hx1
    obtain ⟨⟨g10, g11, g12, g13, g14, g15, g16, g17, g18, g19, g110, g111, g112, g113, g114⟩, gl1⟩ := ent_box e hx1
    go_wp2_with fail
    refine (C2.out _ (hw1.alloc _)).mono ?_; rintro x w2 ⟨rfl, hx2⟩
    go_wp2_with fail
    go_ret2
    exact ⟨rfl, (hw1.alloc _).trans hx2⟩

set_option maxHeartbeats 4000000 in
set_option maxRecDepth 100000 in
/-- What both sides tell of a member in a dialect is the same. -/
theorem plainOf_any (d : Int) (e : Ent) (ok : e.Ok) (w : World) (hg : HasHandle w)
    (W : largeB e = false → ∃ (s : ByteArray) (k : Int), (∀ W, Ext w W → Calls Tryz.prog 17 #[.int .i64 d, .agg #[.string e.nm, .int .u8 e.kd, .int .i64 e.md, .int .i64 e.ui, .int .i64 e.gi, .int .i64 e.sz, .int .i64 e.ts, .int .i64 e.tn, .string e.lk, .string e.us, .string e.gr, .int .i64 e.ma, .int .i64 e.mi, .string e.dt, .slice e.pa e.pn e.pc]] W fun x w' => x = .returned (.tuple #[.string s, .int .i64 k]) ∧ Ext W w') ∧ (∀ W, Ext w W → Calls Tryz.prog 18 #[.int .i64 d, .agg #[.string e.nm, .int .u8 e.kd, .int .i64 e.md, .int .i64 e.ui, .int .i64 e.gi, .int .i64 e.sz, .int .i64 e.ts, .int .i64 e.tn, .string e.lk, .string e.us, .string e.gr, .int .i64 e.ma, .int .i64 e.mi, .string e.dt, .slice e.pa e.pn e.pc]] W fun x w' => x = .returned (.tuple #[.string s, errOf k]) ∧ Ext W w')) :
    Calls Tryz.prog 8 #[.int .i64 d, .agg #[.string e.nm, .int .u8 e.kd, .int .i64 e.md, .int .i64 e.ui, .int .i64 e.gi, .int .i64 e.sz, .int .i64 e.ts, .int .i64 e.tn, .string e.lk, .string e.us, .string e.gr, .int .i64 e.ma, .int .i64 e.mi, .string e.dt, .slice e.pa e.pn e.pc]] w fun x w' => x = .returned (.bool true) ∧ Ext w w' := by
  have h6 := ok.pn
  have c1 := fun w => large_any e ok w
  cases hl : largeB e with
  | true =>
    rw [hl] at c1
    have C1 := Lib.hid c1
    clear c1 W
    as_aux_lemma =>
      go_enter Tryz.func8, Tryz.ntmps8
      go_wp2_with fail
      refine (C1.out _).mono ?_; rintro x w1 ⟨rfl, hx1⟩
      go_wp2_with fail
      go_ret
      exact ⟨rfl, Ext.trans ((Ext.refl w).alloc _) hx1⟩
  | false =>
    rw [hl] at c1
    have C1 := Lib.hid c1
    obtain ⟨s, k, c2, c3⟩ := W hl
    have C2 := Lib.hid c2
    have C3 := Lib.hid c3
    clear c1 W c2 c3
    as_aux_lemma =>
      go_enter Tryz.func8, Tryz.ntmps8
      go_wp2_with fail
      refine (C1.out _).mono ?_; rintro x w1 ⟨rfl, hx1⟩
      have hw1 := Ext.trans ((Ext.refl w).alloc _) hx1
      obtain ⟨⟨g10, g11, g12, g13, g14, g15, g16, g17, g18, g19, g110, g111, g112, g113, g114⟩, gl1⟩ := ent_box e hx1
      go_wp2_with fail
      refine (C2.out _ hw1).mono ?_; rintro x w2 ⟨rfl, hx2⟩
      have hy2 := hx1.trans hx2
      have hw2 := hw1.trans hx2
      obtain ⟨⟨g20, g21, g22, g23, g24, g25, g26, g27, g28, g29, g210, g211, g212, g213, g214⟩, gl2⟩ := ent_box e hy2
      go_wp2_with fail
      refine (C3.out _ hw2).mono ?_; rintro x w3 ⟨rfl, hx3⟩
      have hw3 := hw2.trans hx3
      go_wp2_with fail
      refine (bare_any _ _ _ (hg.ext hw3)).mono ?_; rintro x w4 ⟨rfl, hx4⟩
      go_wp2_with fail
      go_ret
      exact ⟨ret_bool (by simp), hw3.trans hx4⟩
end Go.Proofs.YtnbcbipigiopbaaGreatDoor
