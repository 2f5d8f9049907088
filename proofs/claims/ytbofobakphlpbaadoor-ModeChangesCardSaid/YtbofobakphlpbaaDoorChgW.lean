/-
  mode.Change: its walk. No conditions but the text's length.
-/
import Derived.Test.YtbofobakphlpbaaDoorSeqSplit
import Derived.Test.YtbofobakphlpbaaDoorChgP
import Derived.Test.YtbofobakphlpbaaDoorBare
namespace Go.Proofs.YtbofobakphlpbaaDoor
open Go.RowKit Go.WideShapes Go.Shelf Go.PlainAid
attribute [local go_sem] Oper.semAt_some

theorem allV_snoc (dir : Bool) : ∀ (l : List (List UInt8)) (m : Nat) (p : List UInt8), allV dir m (l ++ [p]) = (allV dir m l).bind fun n => partV n dir p
  | [], m, p => by simp [allV]
  | q :: l, m, p => by
    simp only [List.cons_append, allV]
    cases partV m dir q with
    | none => rfl
    | some x => exact allV_snoc dir l x p
theorem allV_app_none (dir : Bool) : ∀ (l r : List (List UInt8)) (m : Nat), allV dir m l = none → allV dir m (l ++ r) = none
  | [], r, m, h => by simp [allV] at h
  | q :: l, r, m, h => by
    simp only [List.cons_append, allV] at h ⊢
    cases hq : partV m dir q with
    | none => rfl
    | some x =>
      rw [hq] at h
      exact allV_app_none dir l r x h
/-- A list of texts as lists of bytes. -/
def bts (l : List ByteArray) : List (List UInt8) := l.map fun x => x.data.toList
/-- What a change by parts gives. -/
def chgR (v : Option Nat) : Value := match v with
  | some x => .tuple #[.int .i64 (x : Int), .nilIface]
  | none => .tuple #[.int .i64 0, .iface 22 (.int .i64 3)]

theorem splitSeq_any (s sep : ByteArray) (w : World) : Calls Tryd.prog 47 #[.string s, .string sep, .int .i64 0] w fun e w' =>
    e = .returned (.func (.func 72) #[] #[.pointer (some ⟨w.heap.size + 1, 0, none⟩), .pointer (some ⟨w.heap.size, 0, none⟩), .pointer (some ⟨w.heap.size + 1 + 1, 0, none⟩)]) ∧ w' = ((w.alloc (.cells #[.string s] 9)).alloc (.cells #[.string sep] 9)).alloc (.cells #[.int .i64 0] 3) := by
  go_enter Tryd.func47, Tryd.ntmps47
  go_wp2_with fail
  go_ret
  exact ⟨rfl, rfl⟩
theorem seqC_any (s sep : ByteArray) (w : World) : Calls Tryd.prog 25 #[.string s, .string sep] w fun e w' =>
    e = .returned (.func (.func 72) #[] #[.pointer (some ⟨w.heap.size + 1, 0, none⟩), .pointer (some ⟨w.heap.size, 0, none⟩), .pointer (some ⟨w.heap.size + 1 + 1, 0, none⟩)]) ∧ w' = ((w.alloc (.cells #[.string s] 9)).alloc (.cells #[.string sep] 9)).alloc (.cells #[.int .i64 0] 3) := by
  go_enter Tryd.func25, Tryd.ntmps25
  go_wp2_with fail
  refine (splitSeq_any _ _ _).mono ?_; rintro e w1 ⟨rfl, rfl⟩
  go_wp2_with fail
  go_ret
  exact ⟨rfl, rfl⟩

/-- Four boxes in a row, and what has come behind. -/
theorem four_at {w W : World} {a b c d : Value} {t1 t2 t3 t4 : TypeId} (h : Ext ((((w.alloc (.cells #[a] t1)).alloc (.cells #[b] t2)).alloc (.cells #[c] t3)).alloc (.cells #[d] t4)) W) :
    Boxed W w.heap.size t1 a ∧ Boxed W (w.heap.size + 1) t2 b ∧ Boxed W (w.heap.size + 1 + 1) t3 c ∧ Boxed W (w.heap.size + 1 + 1 + 1) t4 d := by
  have b1 := (((Boxed.new w t1 a).alloc (.cells #[b] t2)).alloc (.cells #[c] t3)).alloc (.cells #[d] t4)
  have b2 := ((Boxed.new (w.alloc (.cells #[a] t1)) t2 b).alloc (.cells #[c] t3)).alloc (.cells #[d] t4)
  have b3 := (Boxed.new ((w.alloc (.cells #[a] t1)).alloc (.cells #[b] t2)) t3 c).alloc (.cells #[d] t4)
  have b4 := Boxed.new (((w.alloc (.cells #[a] t1)).alloc (.cells #[b] t2)).alloc (.cells #[c] t3)) t4 d
  simp only [World.size_alloc] at b2 b3 b4
  exact ⟨(h.block _ b1.lt).trans b1, (h.block _ b2.lt).trans b2, (h.block _ b3.lt).trans b3, (h.block _ b4.lt).trans b4⟩

set_option maxHeartbeats 1600000 in
set_option maxRecDepth 100000 in
theorem change_rng (m : Int) (s : ByteArray) (dir : Bool) (h : m < 0 ∨ 4095 < m) (w : World) : Calls Tryd.prog 8 #[.int .i64 m, .string s, .bool dir] w fun e w' => e = .returned (.tuple #[.int .i64 0, .iface 22 (.int .i64 2)]) ∧ Ext w w' := by
  by_cases h0 : m < 0
  · clear h
    go_enter Tryd.func8, Tryd.ntmps8
    go_wp2_with fail
    refine bodyPost_ret (v := .tuple #[.int .i64 0, .iface 22 (.int .i64 2)]) ?_ rfl ⟨rfl, (by show Below _ _ _; repeat' (first | (with_reducible exact Below.refl _ _) | (with_reducible assumption) | (with_reducible refine belowDrewN ?_ _) | (with_reducible refine Below.alloc ?_ ?_ _) | (with_reducible refine Below.drew ?_) | (with_reducible refine Below.setCell ?_ ?_ _) | go_size))⟩
    simp [results, Tryd.results8, go_sem]
  · have h1 : 4095 < m := by omega
    clear h
    go_enter Tryd.func8, Tryd.ntmps8
    go_wp2_with fail
    refine bodyPost_ret (v := .tuple #[.int .i64 0, .iface 22 (.int .i64 2)]) ?_ rfl ⟨rfl, (by show Below _ _ _; repeat' (first | (with_reducible exact Below.refl _ _) | (with_reducible assumption) | (with_reducible refine belowDrewN ?_ _) | (with_reducible refine Below.alloc ?_ ?_ _) | (with_reducible refine Below.drew ?_) | (with_reducible refine Below.setCell ?_ ?_ _) | go_size))⟩
    simp [results, Tryd.results8, go_sem]
set_option maxHeartbeats 1600000 in
set_option maxRecDepth 100000 in
theorem change_oct (m : Int) (s : ByteArray) (dir : Bool) (h0 : 0 ≤ m) (h1 : m ≤ 4095) (hs : s.size ≤ 1000) (hz : 0 < s.size) (h : AllO s) (w : World) : Calls Tryd.prog 8 #[.int .i64 m, .string s, .bool dir] w fun e w' =>
    e = .returned (if 4095 < octK 1048576 s s.size then .tuple #[.int .i64 0, .iface 22 (.int .i64 2)] else .tuple #[.int .i64 (octK 1048576 s s.size), .nilIface]) ∧ Ext w w' := by
  have CO := fun w => octal_all s hs h w
  simp only [emp_f hz, Bool.not_false] at CO
  have HO := Lib.hid CO
  clear CO
  have q1 : decide (m < 0) = false := decide_eq_false (by omega)
  have q2 : decide (4095 < m) = false := decide_eq_false (by omega)
  generalize octK 1048576 s s.size = n at *
  clear h
  have hx0 : Ext w ((((w.alloc (.cells #[.int .i64 m] 3)).alloc (.cells #[.bool dir] 4)).alloc (.cells #[.int .i64 0] 3)).alloc (.cells #[.nilIface] 26)) := ((((Ext.refl w).alloc _).alloc _).alloc _).alloc _
  by_cases hn : 4095 < n
  · rw [if_pos hn]
    have q3 : decide (4095 < n) = true := decide_eq_true hn
    clear hn
    go_enter Tryd.func8, Tryd.ntmps8
    go_wp2_with fail
    refine (HO.out _).mono ?_; rintro e w1 ⟨rfl, hx1⟩
    obtain ⟨g1, g2, g3, g4⟩ := four_at hx1
    have hy1 : Below w.heap.size w w1 := hx0.trans hx1
    have c3 := g3.cell
    have c4 := g4.cell
    have f3 := g3.frozen
    have f4 := g4.frozen
    have l3 := g3.lt
    have l4 := g4.lt
    go_wp2_with fail
    refine bodyPost_ret (v := .tuple #[.int .i64 0, .iface 22 (.int .i64 2)]) ?_ rfl ⟨rfl, (by show Below _ _ _; repeat' (first | (with_reducible exact Below.refl _ _) | (with_reducible assumption) | (with_reducible refine belowDrewN ?_ _) | (with_reducible refine Below.alloc ?_ ?_ _) | (with_reducible refine Below.drew ?_) | (with_reducible refine Below.setCell ?_ ?_ _) | go_size))⟩
    simp [results, Tryd.results8, go_sem, c3, c4]
  · rw [if_neg hn]
    have q3 : decide (4095 < n) = false := decide_eq_false hn
    clear hn
    go_enter Tryd.func8, Tryd.ntmps8
    go_wp2_with fail
    refine (HO.out _).mono ?_; rintro e w1 ⟨rfl, hx1⟩
    obtain ⟨g1, g2, g3, g4⟩ := four_at hx1
    have hy1 : Below w.heap.size w w1 := hx0.trans hx1
    have c3 := g3.cell
    have c4 := g4.cell
    have f3 := g3.frozen
    have f4 := g4.frozen
    have l3 := g3.lt
    have l4 := g4.lt
    go_wp2_with fail
    refine bodyPost_ret (v := .tuple #[.int .i64 n, .nilIface]) ?_ rfl ⟨rfl, (by show Below _ _ _; repeat' (first | (with_reducible exact Below.refl _ _) | (with_reducible assumption) | (with_reducible refine belowDrewN ?_ _) | (with_reducible refine Below.alloc ?_ ?_ _) | (with_reducible refine Below.drew ?_) | (with_reducible refine Below.setCell ?_ ?_ _) | go_size))⟩
    simp [results, Tryd.results8, go_sem, c3, c4]
theorem hKb_KpB {w : World} {Bp Bs Bv : Nat} (h1 : Bp < w.heap.size) (h2 : Bs < w.heap.size) (h3 : Bv < w.heap.size) (W : World) (l : Nat) (o : Obj) (hl : w.heap.size ≤ l) : KpB Bp Bs Bv W (W.putObj l o) :=
  ⟨World.putObj_heap_other (by omega), World.putObj_heap_other (by omega), World.putObj_heap_other (by omega)⟩
theorem below_le' {w w' : World} {B C : Nat} (h : B ≤ C) (hb : Below C w w') : Below B w w' := ⟨hb.os, hb.tape, hb.output, hb.size, fun b hlt => hb.block b (Nat.lt_of_lt_of_le hlt h)⟩
theorem keeps_ext {W W' : World} (h : Ext W W') (B : Nat) : KeepsFrom B W W' := ⟨h.size, fun k _ _ hk _ => (h.block k (Array.getElem?_eq_some_iff.1 hk).1).trans hk⟩
theorem boxed_kept {W W' : World} {row : Option Nat} {B : Nat} {t : TypeId} {v : Value} (h : Boxed W B t v) (hg : W.grownBy W' row) (hr : ∀ r, row = some r → ∃ o : Obj, W.heap[r]? = some o ∧ o.isCells = false) : Boxed W' B t v :=
  boxed_own B t (fun _ : Unit => v) () W W' row h hg hr

set_option maxHeartbeats 4000000 in
set_option maxRecDepth 100000 in
theorem change_seq (m : Nat) (s : ByteArray) (dir : Bool) (hm : m < 4096) (hs : s.size ≤ 1000) (n : Int) (CO : ∀ w, Calls Tryd.prog 24 #[.string s] w fun e w' => e = .returned (.tuple #[.int .i64 n, .bool false]) ∧ Ext w w') (w : World) :
    Calls Tryd.prog 8 #[.int .i64 (m : Int), .string s, .bool dir] w fun e w' => e = .returned (chgR (allV dir m (bts (cmS s)))) ∧ Ext w w' := by
  obtain ⟨R, hR⟩ : ∃ R, R = chgR (allV dir m (bts (cmS s))) := ⟨_, rfl⟩
  rw [← hR]
  have HR := Lib.hid hR
  clear hR
  have HO := Lib.hid CO
  clear CO
  have q1 : decide ((m : Int) < 0) = false := decide_eq_false (by omega)
  have q2 : decide (4095 < (m : Int)) = false := decide_eq_false (by omega)
  have hx0 : Ext w ((((w.alloc (.cells #[.int .i64 (m : Int)] 3)).alloc (.cells #[.bool dir] 4)).alloc (.cells #[.int .i64 0] 3)).alloc (.cells #[.nilIface] 26)) := ((((Ext.refl w).alloc _).alloc _).alloc _).alloc _
  refine (callsIn_wide (n := 4)).1 ?_
  refine callsIn_of_wp_marks Tryd.func8 rfl trivial ?_ rfl
  simp only [Tryd.ntmps8, List.size_toArray, List.length_cons, List.length_nil, Nat.reduceAdd, Nat.reduceSub, Array.replicate_succ, Array.replicate_zero, List.push_toArray, List.append_toArray, List.nil_append, List.cons_append]
  gi_wp2_with (refine ⟨trivial, ?_⟩; gi_at_call 24; refine ((callsIn_wide (n := 3)).2 (HO.out _)).mono ?_; rintro e w1 ⟨rfl, hx1⟩)
  refine ⟨trivial, ?_⟩
  refine ((callsIn_wide (n := 3)).2 (seqC_any _ _ _)).mono ?_; rintro e w2 ⟨rfl, rfl⟩
  obtain ⟨b1, b2, b3, b4⟩ := four_at hx1
  have hz1 : w.heap.size + 4 ≤ w1.heap.size := by have := hx1.size; simp at this; omega
  have hy1 : Below w.heap.size w w1 := hx0.trans hx1
  have s1 := Boxed.new w1 9 (.string s)
  have s2 := Boxed.new (w1.alloc (.cells #[.string s] 9)) 9 (.string ⟨#[44]⟩)
  have s3 := Boxed.new ((w1.alloc (.cells #[.string s] 9)).alloc (.cells #[.string ⟨#[44]⟩] 9)) 3 (.int .i64 0)
  replace s1 := (s1.alloc (.cells #[.string ⟨#[44]⟩] 9)).alloc (.cells #[.int .i64 0] 3)
  replace s2 := s2.alloc (.cells #[.int .i64 0] 3)
  simp only [World.size_alloc] at s2 s3
  replace b1 := ((b1.alloc (.cells #[.string s] 9)).alloc (.cells #[.string ⟨#[44]⟩] 9)).alloc (.cells #[.int .i64 0] 3)
  replace b2 := ((b2.alloc (.cells #[.string s] 9)).alloc (.cells #[.string ⟨#[44]⟩] 9)).alloc (.cells #[.int .i64 0] 3)
  replace b3 := ((b3.alloc (.cells #[.string s] 9)).alloc (.cells #[.string ⟨#[44]⟩] 9)).alloc (.cells #[.int .i64 0] 3)
  replace b4 := ((b4.alloc (.cells #[.string s] 9)).alloc (.cells #[.string ⟨#[44]⟩] 9)).alloc (.cells #[.int .i64 0] 3)
  have hB0 : Below w.heap.size w (((w1.alloc (.cells #[.string s] 9)).alloc (.cells #[.string ⟨#[44]⟩] 9)).alloc (.cells #[.int .i64 0] 3)) := ((hy1.alloc (by omega) _).alloc (by simp; omega) _).alloc (by simp; omega) _
  have hs0 : (((w1.alloc (.cells #[.string s] 9)).alloc (.cells #[.string ⟨#[44]⟩] 9)).alloc (.cells #[.int .i64 0] 3)).heap.size = w1.heap.size + 3 := by simp
  generalize ((w1.alloc (.cells #[.string s] 9)).alloc (.cells #[.string ⟨#[44]⟩] 9)).alloc (.cells #[.int .i64 0] 3) = W0 at *
  gi_wp2
  have hit := seq_split W0 s (w1.heap.size + 1) w1.heap.size (w1.heap.size + 1 + 1) (by omega) (by omega) (by omega) s2 s1 s3
  refine wpIn_rangeFunc_cell rfl (by omega) (gf := 72) (lb := #[.pointer (some ⟨w1.heap.size + 1, 0, none⟩), .pointer (some ⟨w1.heap.size, 0, none⟩), .pointer (some ⟨w1.heap.size + 1 + 1, 0, none⟩)]) rfl trivial (enters_of Tryd.func72 (by kernel_rfl) rfl)
    (Bs := w1.heap.size) (by omega) hit KpB.trans (fun W l o hl => hKb_KpB (w := W0) (by omega) (by omega) (by omega) W l o hl) (fun _ => rfl)
    (fun pre W => ((∃ y : Nat, y < 4096 ∧ Boxed W w.heap.size 3 (.int .i64 (y : Int)) ∧ allV dir m (bts pre) = some y) ∧ Boxed W (w.heap.size + 1) 4 (.bool dir) ∧ Boxed W (w.heap.size + 1 + 1) 3 (.int .i64 0) ∧ Boxed W (w.heap.size + 1 + 1 + 1) 26 .nilIface ∧ w1.heap.size + 3 ≤ W.heap.size) ∧ Below w.heap.size w W)
    (fun pre W => (Boxed W (w.heap.size + 1 + 1) 3 (.int .i64 0) ∧ Boxed W (w.heap.size + 1 + 1 + 1) 26 (.iface 22 (.int .i64 3)) ∧ allV dir m (bts pre) = none) ∧ Below w.heap.size w W)
    (OwnFrom.and (fun p A B row h hg hr => by
      obtain ⟨⟨y, h1, h2, h3⟩, h4, h5, h6, h7⟩ := h
      exact ⟨⟨y, h1, boxed_kept h2 hg fun r e => (hr r e).2, h3⟩, boxed_kept h4 hg fun r e => (hr r e).2, boxed_kept h5 hg fun r e => (hr r e).2, boxed_kept h6 hg fun r e => (hr r e).2, Nat.le_trans h7 hg.size⟩) (ownFrom_below (Nat.le_refl _) (by omega)))
    (OwnFrom.and (fun p A B row h hg hr => ⟨boxed_kept h.1 hg fun r e => (hr r e).2, boxed_kept h.2.1 hg fun r e => (hr r e).2, h.2.2⟩) (ownFrom_below (Nat.le_refl _) (by omega)))
    (fun p X v h => by
      obtain ⟨⟨⟨y, h1, h2, h3⟩, h4, h5, h6, h7⟩, h8⟩ := h
      exact ⟨⟨⟨y, h1, h2.other (by omega) _, h3⟩, h4.other (by omega) _, h5.other (by omega) _, h6.other (by omega) _, by rw [World.size_setCell]; exact h7⟩, h8.setCell (p := ⟨w1.heap.size, 0, none⟩) (by show w.heap.size ≤ w1.heap.size; omega) _⟩)
    (fun p X v h => ⟨⟨h.1.1.other (by omega) _, h.1.2.1.other (by omega) _, h.1.2.2⟩, h.2.setCell (p := ⟨w1.heap.size, 0, none⟩) (by show w.heap.size ≤ w1.heap.size; omega) _⟩)
    ⟨⟨⟨m, hm, b1, rfl⟩, b2, b3, b4, by omega⟩, hB0⟩
    (fun x => { tmps := #[.int .i64 (m : Int), .string s, .bool dir, .pointer (some ⟨w.heap.size, 0, none⟩), undef, .pointer (some ⟨w.heap.size + 1, 0, none⟩), .pointer (some ⟨w.heap.size + 1 + 1, 0, none⟩), .pointer (some ⟨w.heap.size + 1 + 1 + 1, 0, none⟩), .int .i64 n, .bool false, .string x, undef, undef, .int .i64 (m : Int), .bool false, .bool false, .int .i64 (m : Int), .bool false, .bool false, undef, .tuple #[.int .i64 n, .bool false], .string s, .tuple #[.int .i64 n, .bool false], .int .i64 n, .bool false, .bool false, undef, undef, undef, undef, .string s, .func (.func 72) #[] #[.pointer (some ⟨w1.heap.size + 1, 0, none⟩), .pointer (some ⟨w1.heap.size, 0, none⟩), .pointer (some ⟨w1.heap.size + 1 + 1, 0, none⟩)], .string x, undef, undef, undef, undef, undef, undef, undef, undef, undef, undef, undef, undef], defers := [] }) ?assign ?body ?done ?stop
  case assign =>
    intro l x W K hK
    gi_wp2
    exact hK
  case body =>
    rintro l pre x W ⟨⟨⟨y, hy, i1, hv⟩, i2, i3, i4, i5⟩, hB⟩ hlen
    have c1 := i1.cell
    have c2 := i2.cell
    have CP := Lib.hid (fun w => part_any x y hy dir w)
    have hsn := Lib.hid (allV_snoc dir (bts pre) m x.data.toList)
    have hvh := Lib.hid hv
    clear hv
    cases hp : partV y dir x.data.toList with
    | none =>
      rw [hp, show partR none = .tuple #[.int .i64 0, .bool false] from rfl] at CP
      have p5 : allV dir m (bts (pre ++ [x])) = none := by
        have := hsn.out
        rw [hvh.out] at this
        simp only [Option.bind_some, hp] at this
        simpa [bts] using this
      gi_wp2_with (refine ⟨trivial, ?_⟩; gi_at_call 26; refine (CallsIn.inRound l ((callsIn_wide (n := 1)).2 (CP.out _))).mono ?_; rintro e w3 ⟨rfl, hx3⟩; have j3 : Boxed w3 (w.heap.size + 1 + 1) 3 (.int .i64 0) := (hx3.block _ i3.lt).trans i3; have j4 : Boxed w3 (w.heap.size + 1 + 1 + 1) 26 .nilIface := (hx3.block _ i4.lt).trans i4; have d3 := j3.cell; have d4 := j4.cell; have f3 := j3.frozen; have f4 := j4.frozen; have l3 := j3.lt; have l4 := j4.lt; have p1 : Boxed ((w3.setCell ⟨w.heap.size + 1 + 1, 0, none⟩ (.int .i64 0)).setCell ⟨w.heap.size + 1 + 1 + 1, 0, none⟩ (.iface 22 (.int .i64 3))) (w.heap.size + 1 + 1) 3 (.int .i64 0) := (j3.set _).other (by omega) _; have p2 : Boxed ((w3.setCell ⟨w.heap.size + 1 + 1, 0, none⟩ (.int .i64 0)).setCell ⟨w.heap.size + 1 + 1 + 1, 0, none⟩ (.iface 22 (.int .i64 3))) (w.heap.size + 1 + 1 + 1) 26 (.iface 22 (.int .i64 3)) := (j4.other (by omega) _).set _; have p3 : Below w.heap.size w ((w3.setCell ⟨w.heap.size + 1 + 1, 0, none⟩ (.int .i64 0)).setCell ⟨w.heap.size + 1 + 1 + 1, 0, none⟩ (.iface 22 (.int .i64 3))) := ((hB.trans (below_le' hB.size hx3)).setCell (p := ⟨w.heap.size + 1 + 1, 0, none⟩) (by show w.heap.size ≤ w.heap.size + 1 + 1; omega) _).setCell (p := ⟨w.heap.size + 1 + 1 + 1, 0, none⟩) (by show w.heap.size ≤ w.heap.size + 1 + 1 + 1; omega) _; have p4 : KeepsFrom W0.heap.size W ((w3.setCell ⟨w.heap.size + 1 + 1, 0, none⟩ (.int .i64 0)).setCell ⟨w.heap.size + 1 + 1 + 1, 0, none⟩ (.iface 22 (.int .i64 3))) := ((keeps_ext hx3 _).trans ((KeepsOthers.setCell _ _ _).from _)).trans ((KeepsOthers.setCell _ _ _).from _))
      exact ⟨p4, rfl, ⟨p1, p2, p5⟩, p3⟩
    | some z =>
      have hz := partV_lt hy hp
      rw [hp, show partR (some z) = .tuple #[.int .i64 (z : Int), .bool true] from rfl] at CP
      have p5 : allV dir m (bts (pre ++ [x])) = some z := by
        have := hsn.out
        rw [hvh.out] at this
        simp only [Option.bind_some, hp] at this
        simpa [bts] using this
      gi_wp2_with (refine ⟨trivial, ?_⟩; gi_at_call 26; refine (CallsIn.inRound l ((callsIn_wide (n := 1)).2 (CP.out _))).mono ?_; rintro e w3 ⟨rfl, hx3⟩; have j1 : Boxed w3 w.heap.size 3 (.int .i64 (y : Int)) := (hx3.block _ i1.lt).trans i1; have j2 : Boxed w3 (w.heap.size + 1) 4 (.bool dir) := (hx3.block _ i2.lt).trans i2; have j3 : Boxed w3 (w.heap.size + 1 + 1) 3 (.int .i64 0) := (hx3.block _ i3.lt).trans i3; have j4 : Boxed w3 (w.heap.size + 1 + 1 + 1) 26 .nilIface := (hx3.block _ i4.lt).trans i4; have d1 := j1.cell; have f1 := j1.frozen; have l1 := j1.lt; have p3 : Below w.heap.size w (w3.setCell ⟨w.heap.size, 0, none⟩ (.int .i64 (z : Int))) := (hB.trans (below_le' hB.size hx3)).setCell (p := ⟨w.heap.size, 0, none⟩) (Nat.le_refl _) _; have p4 : KeepsFrom W0.heap.size W (w3.setCell ⟨w.heap.size, 0, none⟩ (.int .i64 (z : Int))) := (keeps_ext hx3 _).trans ((KeepsOthers.setCell _ _ _).from _); have p6 : KpB (w1.heap.size + 1) w1.heap.size (w1.heap.size + 1 + 1) W (w3.setCell ⟨w.heap.size, 0, none⟩ (.int .i64 (z : Int))) := ⟨(Below.heap_setCell _ _ _ _ (by show _ ≠ w.heap.size; omega)).trans (hx3.block _ (by omega)), (Below.heap_setCell _ _ _ _ (by show _ ≠ w.heap.size; omega)).trans (hx3.block _ (by omega)), (Below.heap_setCell _ _ _ _ (by show _ ≠ w.heap.size; omega)).trans (hx3.block _ (by omega))⟩; have p7 : w1.heap.size + 3 ≤ w3.heap.size := Nat.le_trans i5 hx3.size; have q1 := j1.set (.int .i64 (z : Int)); have q2 := j2.other (B' := w.heap.size) (by omega) (.int .i64 (z : Int)); have q3 := j3.other (B' := w.heap.size) (by omega) (.int .i64 (z : Int)); have q4 := j4.other (B' := w.heap.size) (by omega) (.int .i64 (z : Int)))
      exact ⟨p4, p6, ⟨⟨z, hz, q1, p5⟩, q2, q3, q4, by rw [World.size_setCell]; exact p7⟩, p3⟩
  case done =>
    rintro D ys W hD rfl ⟨⟨⟨y, hy, i1, hv⟩, i2, i3, i4, i5⟩, hB⟩ hK
    have e1 : R = .tuple #[.int .i64 (y : Int), .nilIface] := by
      rw [HR.out, hv]
      rfl
    have c1 := i1.cell
    have d3 := i3.cell
    have d4 := i4.cell
    have f3 := i3.frozen
    have f4 := i4.frozen
    have l3 := i3.lt
    have l4 := i4.lt
    have E1 := Lib.hid e1
    clear e1 hv
    have p1 : Boxed ((W.setCell ⟨w.heap.size + 1 + 1, 0, none⟩ (.int .i64 (y : Int))).setCell ⟨w.heap.size + 1 + 1 + 1, 0, none⟩ .nilIface) (w.heap.size + 1 + 1) 3 (.int .i64 (y : Int)) := (i3.set _).other (by omega) _
    have p2 : Boxed ((W.setCell ⟨w.heap.size + 1 + 1, 0, none⟩ (.int .i64 (y : Int))).setCell ⟨w.heap.size + 1 + 1 + 1, 0, none⟩ .nilIface) (w.heap.size + 1 + 1 + 1) 26 .nilIface := (i4.other (by omega) _).set _
    have p3 : Below w.heap.size w ((W.setCell ⟨w.heap.size + 1 + 1, 0, none⟩ (.int .i64 (y : Int))).setCell ⟨w.heap.size + 1 + 1 + 1, 0, none⟩ .nilIface) := (hB.setCell (p := ⟨w.heap.size + 1 + 1, 0, none⟩) (by show w.heap.size ≤ w.heap.size + 1 + 1; omega) _).setCell (p := ⟨w.heap.size + 1 + 1 + 1, 0, none⟩) (by show w.heap.size ≤ w.heap.size + 1 + 1 + 1; omega) _
    have q4 : ((W.setCell ⟨w.heap.size + 1 + 1, 0, none⟩ (.int .i64 (y : Int))).setCell ⟨w.heap.size + 1 + 1 + 1, 0, none⟩ .nilIface).heap[D]? = some (.deferred (some [])) := ((KeepsOthers.setCell _ _ _).trans (KeepsOthers.setCell _ _ _)).same D _ hK rfl
    gi_wp2
    generalize (W.setCell ⟨w.heap.size + 1 + 1, 0, none⟩ (.int .i64 (y : Int))).setCell ⟨w.heap.size + 1 + 1 + 1, 0, none⟩ .nilIface = V at *
    refine ⟨by simp, .inl ⟨_, _, rfl, run_takeDeferred q4, ?_⟩⟩
    have t0 : (V.putObj D (.deferred none)).cell? ⟨w.heap.size + 1 + 1, 0, none⟩ = some (.int .i64 (y : Int)) := cell_kept p1.cell (grownBy_putObj' _ D (.deferred none)) (fun r e => by cases e; exact ⟨_, q4, rfl⟩)
    have t1 : (V.putObj D (.deferred none)).cell? ⟨w.heap.size + 1 + 1 + 1, 0, none⟩ = some .nilIface := cell_kept p2.cell (grownBy_putObj' _ D (.deferred none)) (fun r e => by cases e; exact ⟨_, q4, rfl⟩)
    rw [E1.out]
    exact ⟨.tuple #[.int .i64 (y : Int), .nilIface], (by simp [results, Tryd.results8, go_sem, t0, t1]), rfl, p3.trans (belowK_b (w := w) (Nat.le_refl _) V D _ _ (by omega) q4 rfl rfl)⟩
  case stop =>
    rintro D pre W hD ⟨suf, hp⟩ ⟨⟨i3, i4, hv⟩, hB⟩ hK
    have e1 : R = .tuple #[.int .i64 0, .iface 22 (.int .i64 3)] := by
      rw [HR.out, ← hp, show bts (pre ++ suf) = bts pre ++ bts suf by simp [bts], allV_app_none dir _ _ _ hv]
      rfl
    gi_wp2
    refine ⟨by simp, .inl ⟨_, _, rfl, run_takeDeferred hK, ?_⟩⟩
    have t0 : (W.putObj D (.deferred none)).cell? ⟨w.heap.size + 1 + 1, 0, none⟩ = some (.int .i64 0) := cell_kept i3.cell (grownBy_putObj' _ D (.deferred none)) (fun r e => by cases e; exact ⟨_, hK, rfl⟩)
    have t1 : (W.putObj D (.deferred none)).cell? ⟨w.heap.size + 1 + 1 + 1, 0, none⟩ = some (.iface 22 (.int .i64 3)) := cell_kept i4.cell (grownBy_putObj' _ D (.deferred none)) (fun r e => by cases e; exact ⟨_, hK, rfl⟩)
    rw [e1]
    exact ⟨.tuple #[.int .i64 0, .iface 22 (.int .i64 3)], (by simp [results, Tryd.results8, go_sem, t0, t1]), rfl, hB.trans (belowK_b (w := w) (Nat.le_refl _) W D _ _ (by omega) hK rfl rfl)⟩
end Go.Proofs.YtbofobakphlpbaaDoor
