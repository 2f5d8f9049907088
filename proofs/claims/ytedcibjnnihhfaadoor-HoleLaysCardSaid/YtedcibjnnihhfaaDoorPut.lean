/-
  hole.Put and the reference's MapPut: bytes put into their pieces.
-/
import Derived.Test.YtedcibjnnihhfaaDoorPutV
import Derived.Test.YtedcibjnnihhfaaDoorBare
import Derived.Test.YtedcibjnnihhfaaDoorHole
import Derived.Test.YtedcibjnnihhfaaDoorBytes
import Derived.Lib.BufferWrite
import Derived.StillTailTactics
namespace Go.Proofs.YtedcibjnnihhfaaDoor
open Go.RowKit Go.WideShapes

theorem infoU8p : (Tryd.prog.info? 5).map (·.size) = some 1 := by kernel_rfl

/-- 'copy(b[k:], s)' with s a text that fits, as one step of a region's list. -/
theorem wpList_copy_str {P : Program} {w : World} {ops : Array Oper} {rest : List Oper} {o : Oper} {a : Act} {Q : Exit → Act → World → Prop} (hgd : o.guard = none) (d x : Operand) (dT sT : TypeId)
    (ho : o.op = .call { callee := .builtin .copy, args := #[d, x], argTypes := #[dT, sT] }) (elem : TypeId) (hu : P.underlying dT = some (.slice elem)) (hsz : (P.info? elem).map (·.size) = some 1)
    (g off dLen dCap : Nat) (s : ByteArray) (cur : List Value) (t : TypeId) (hd : a.eval d = .slice (some ⟨g, off, none⟩) dLen dCap) (hx : a.eval x = .string s)
    (hg : w.heap[g]? = some (.cells cur.toArray t (0, 0))) (hle : s.size ≤ dLen) (hfit : off + s.size ≤ cur.length)
    (w0 : World) (B : Nat) (hB : Below B w0 w) (hBg : B ≤ g)
    (h : ∀ w', Hid (w'.heap[g]? = some (.cells (splice cur off (Lib.byteCells s.data.toList)).toArray t (0, 0))) → Below B w0 w' → Hid (w'.heap.size = w.heap.size) → Hid (∀ b o, b ≠ g → w'.cell? ⟨b, o, none⟩ = w.cell? ⟨b, o, none⟩) → wpList P ops Q rest (a.put o.dst (goInt s.size)) w') : wpList P ops Q (o :: rest) a w := by
  refine wpList_plain hgd fun K hK => ?_
  have hrun := Lib.run_copy_row_string (P := P) w dT sT o.type elem g off dLen dCap s cur.toArray t hu hsz hg hle (by simpa using hfit)
  have hl : (Lib.byteCells s.data.toList).length = s.size := by simp [Lib.byteCells]
  have e : (splice cur off (Lib.byteCells s.data.toList)).toArray = (List.take off cur.toArray.toList ++ Lib.byteCells s.data.toList ++ List.drop (off + s.size) cur.toArray.toList).toArray := by
    unfold splice
    rw [hl]
    simp
  unfold Oper.wp
  simp [execOp, ho, resolve, invoke, builtin, hd, hx, hrun, Result.andThen]
  refine hK _ _ (h _ (Lib.hid ?_) (below_setRow hB hBg _) (Lib.hid (by simp)) (Lib.hid fun b o hb => cell_setRow_other _ _ _ _ hb))
  rw [e]
  have := setRow_heap w g cur.toArray (List.take off cur.toArray.toList ++ Lib.byteCells s.data.toList ++ List.drop (off + s.size) cur.toArray.toList).toArray t (0, 0) hg
  simpa using this

/-- Reads, then one operation that writes: the region's law with the drawn world under its own name. -/
theorem wp_region_tail {P : Program} {id : Nat} {Q : Exit → Act → World → Prop} {a : Act} {w : World} {l : List Oper} (n : Nat) (hm : P.follows .mixedOrders = true) (hB : Region.lexTailB .any l.toArray n = true)
    (h : wpStill P l.toArray w.drew (fun a' => wpList P l.toArray Q (l.drop n) a' w.drew) (l.take n) a) : (Code.region id l.toArray true).wp P Q a w := wp_region_still_tail n hm hB h
/-- The bytes of a piece, and what is behind it. -/
theorem piece_take {t : ByteArray} {d : List UInt8} {a n : Nat} (h : t.data.toList = d.drop a) (hn : a + n ≤ d.length) : n ≤ t.size ∧ (t.extract 0 n).data.toList = (d.drop a).take n ∧ (t.extract 0 n).size = n ∧ (t.extract n t.size).data.toList = d.drop (a + n) := by
  have hs : t.size = d.length - a := by
    have := congrArg List.length h
    simp at this
    exact this
  refine ⟨by omega, ?_, by rw [ByteArray.size_extract]; omega, ?_⟩
  · rw [ByteArray.data_extract, Array.toList_extract, List.extract_eq_take_drop, h]
    simp
  · rw [ByteArray.data_extract, Array.toList_extract, List.extract_eq_take_drop, h, List.drop_drop]
    rw [List.take_of_length_le (by simp; omega)]

/-- Between two rounds of Put. -/
def PutRel (d : ByteArray) (n : Nat) (A S : Nat → Int) (z g : Nat) (w : World) (dv i : Value) (wr : World) : Prop :=
  ∃ (k : Nat) (t : ByteArray), k ≤ n ∧ dv = .string t ∧ i = .int .i64 (k : Int) ∧ t.size ≤ 600 ∧ Hid (t.data.toList = d.data.toList.drop (sN S k)) ∧
    Hid (wr.heap[g]? = some (.cells (Lib.byteCells (rowP d.data.toList A S z k)).toArray 5 (0, 0))) ∧ Ext w wr ∧ g < wr.heap.size
theorem byteCells_splice (L : List UInt8) (off : Nat) (cs : List UInt8) : splice (Lib.byteCells L) off (Lib.byteCells cs) = Lib.byteCells (splice L off cs) := by
  unfold splice Lib.byteCells
  simp [List.map_take, List.map_drop]
theorem byteCells_len (L : List UInt8) : (Lib.byteCells L).length = L.length := by simp [Lib.byteCells]
theorem zeros_made (z : Nat) : madeCells #[Value.int .u8 0] z = (Lib.byteCells (List.replicate z 0)).toArray := by
  apply Array.ext
  · simp [size_madeCells, Lib.byteCells]
  · intro i h1 h2
    simp [madeCells, Nat.mod_one, Lib.byteCells]
theorem infoU8q : (Tryd.prog.info? 5).map (fun i => (i.zero, i.size, i.bytes)) = some (some (.int .u8 0), 1, 1) := by kernel_rfl
theorem bytesAt_of {w : World} {g : Nat} {L : List UInt8} (h : w.heap[g]? = some (.cells (Lib.byteCells L).toArray 5 (0, 0))) : BytesAt w g L :=
  ⟨fun j hj => by simp [World.cell?, h, Lib.byteCells, hj], fun j _ => by simp [World.frozen?, h]⟩

set_option maxHeartbeats 4000000 in
set_option maxRecDepth 100000 in
theorem put_good (w : World) (d : ByteArray) (v : Value) (n : Nat) (A S : Nat → Int) (z : Nat) (hd : d.size ≤ 600) (h : IsPieces w v n A S) (hB : holeB n A S z = true) (hS : (d.size : Int) = sumW S n) (hz : z ≤ 4000) :
    Calls Tryd.prog 15 #[.string d, v, .int .i64 (z : Int)] w fun e w' => e = .returned (.tuple #[.string ⟨(rowP d.data.toList A S z n).toArray⟩, .nilIface]) ∧ Ext w w' := by
  have c1 := fun w1 (hE : Ext w w1) => holeRight_any w1 v n A S z (by omega) (h.ext hE)
  rw [hB] at c1
  have C1 := Lib.hid c1
  have C2 := Lib.hid (fun w1 (hE : Ext w w1) => holeSize_any w1 v n A S (h.ext hE))
  have hp : ∀ j, j < n → pieceB A S z j = true := fun j hj => holeB_pieces hB hj
  have hsum : sN S n = d.data.toList.length := by
    have h1 := sumW_sN (A := A) (size := z) (by omega) (by omega) n hp
    have h2 : d.data.toList.length = d.size := rfl
    omega
  have Hp := Lib.hid hp
  have Hsum := Lib.hid hsum
  have q1 : ((d.size : Int) != sumW S n) = false := by rw [hS]; simp
  have q2 : decide ((4000 : Int) < (z : Int)) = false := decide_eq_false (by omega)
  have hmk := run_make_row' (P := Tryd.prog) 89 5 (.int .u8 0) 1 Tryd.underlying89 infoU8q rfl .i64 .i64 z (by omega) (by omega)
  rw [zeros_made] at hmk
  clear c1 hB hS hp hsum
  generalize sumW S n = sm at *
  rcases h with ⟨⟨a0, c0, rfl⟩, rfl⟩ | ⟨b, off, cap, rfl, hn, hc⟩
  · have hrl : (rowP d.data.toList A S z 0).length = z := by rw [rowP_zero]; simp
    have Hrl := Lib.hid hrl
    clear hrl
    go_enter Tryd.func15, Tryd.ntmps15
    go_wp2_with fail
    refine (C1.out _ (Ext.refl _)).mono ?_; rintro e w1 ⟨rfl, hx1⟩
    go_wp2_with fail
    refine (C2.out _ hx1).mono ?_; rintro e w2 ⟨rfl, hx2⟩
    have hy2 := hx1.trans hx2
    have hB : BytesAt (w2.alloc (.cells (Lib.byteCells (List.replicate z 0)).toArray 5)) w2.heap.size (rowP d.data.toList A S z 0) := bytesAt_of (by rw [rowP_zero]; exact heap_alloc_new _ _)
    have hcv := hB.conv z z Hrl.out
    clear hB
    go_wp2_with fail
    refine wp_loop_rounds 1 ?_
    rw [rounds_succ]
    go_wp2_with fail
    go_ret2
    exact ⟨rfl, hy2.trans (by show Below _ _ _; repeat' (first | (with_reducible exact Below.refl _ _) | (with_reducible assumption) | (with_reducible refine belowDrewN ?_ _) | (with_reducible refine Below.alloc ?_ ?_ _) | (with_reducible refine Below.drew ?_) | (with_reducible refine Below.setCell ?_ ?_ _) | go_size))⟩
  · have Hc := Lib.hid hc
    clear hc
    go_enter Tryd.func15, Tryd.ntmps15
    go_wp2_with fail
    refine (C1.out _ (Ext.refl _)).mono ?_; rintro e w1 ⟨rfl, hx1⟩
    go_wp2_with fail
    refine (C2.out _ hx1).mono ?_; rintro e w2 ⟨rfl, hx2⟩
    have hy2 := hx1.trans hx2
    have hz2 := hy2.size
    go_wp2_with fail
    go_loopw [0, 30] (fun dv i wr => PutRel d n A S z w2.heap.size w dv i wr) (fun _ i _ => n - (intOf i).toNat)
    case atStart => exact ⟨0, d, Nat.zero_le _, rfl, rfl, hd, Lib.hid rfl, Lib.hid (by rw [rowP_zero]; exact heap_alloc_new _ _), hy2.trans ((Ext.refl _).alloc _), by simp⟩
    case round =>
      obtain ⟨k, t, hk, rfl, rfl, ht6, hrel, hrow, hE, hg⟩ := hrel
      by_cases hlt : k < n
      · have g1 := hE.cell (Hc.out k hlt).1
        have g2 := hE.cell (Hc.out k hlt).2
        have hpk := piece_split (Hp.out k hlt)
        obtain ⟨a, ha⟩ := Int.eq_ofNat_of_zero_le hpk.2.1
        obtain ⟨s, hs⟩ := Int.eq_ofNat_of_zero_le (show 0 ≤ S k by omega)
        have hsn : sN S (k + 1) ≤ d.data.toList.length := by rw [← Hsum.out]; exact sN_mono S hlt
        have hsk : sN S (k + 1) = sN S k + s := by simp only [sN]; omega
        obtain ⟨p1, p2, p3, p4⟩ := piece_take (n := s) hrel.out (by omega)
        have hrl := rowP_len d.data.toList (k := k) (fun j hj => Hp.out j (by omega)) (by have := sN_mono S (Nat.le_succ k); omega)
        have hst : Hid (splice (Lib.byteCells (rowP d.data.toList A S z k)) a (Lib.byteCells (t.extract 0 s).data.toList) = Lib.byteCells (rowP d.data.toList A S z (k + 1))) := Lib.hid (by
          rw [byteCells_splice, p2]
          have := rowP_step d.data.toList (z := z) (k := k) (fun j hj => Hp.out j (by omega)) hsn
          rw [ha, hs] at this
          simp only [Int.toNat_natCast] at this
          rw [this])
        rw [ha] at g1
        rw [hs] at g2
        have i1 : a < z := by omega
        have i0 : ¬ z = a := by omega
        have i2 : (a : Int) ≤ z := by omega
        have i3 : (s : Int) ≤ t.size := by omega
        have i4 : a + s ≤ z := by omega
        have P3 := Lib.hid p3
        have P4 := Lib.hid p4
        have Hrl := Lib.hid hrl
        have Hsk := Lib.hid hsk
        have Hrow := Lib.hid hrow.out
        clear p2 p3 p4 ha hs hsn hsk hrl hrow hpk
        go_wp2_with fail
        refine wp_region_tail 8 (by kernel_rfl) (by kernel_rfl) ?_
        simp only [List.take_succ_cons, List.take_zero, List.drop_succ_cons, List.drop_zero]
        repeat still_step
        refine wpStill_nil ?_
        refine wpList_copy_str rfl (.tmp 37) (.tmp 41) 89 9 rfl 5 Tryd.underlying89 infoU8p w2.heap.size a (z - a) (z - a) (t.extract 0 s) (Lib.byteCells (rowP d.data.toList A S z k)) 5 (by rfl) (by rfl)
          ((Below.heap_alloc wr _ _ hg).trans Hrow.out) (by rw [P3.out]; omega) (by rw [P3.out, byteCells_len, Hrl.out]; omega) w w.heap.size (Ext.drew (Ext.alloc hE _)) hz2 ?_
        intro w3 hrow3 hB3 hsz3 hcl3
        have e1 : w3.cell? ⟨wr.heap.size, 1, none⟩ = some (.int .i64 (s : Int)) := (hcl3.out _ _ (by omega)).trans (by simp)
        have hsz4 : wr.heap.size < w3.heap.size := by have := hsz3.out; simp at this; omega
        go_wp2_with fail
        go_roundw
        case rel => exact ⟨k + 1, _, hlt, rfl, by go_num, by rw [ByteArray.size_extract]; omega, Lib.hid (by rw [P4.out, Hsk.out]), Lib.hid (by rw [← hst.out]; exact hrow3.out), hB3, by omega⟩
        case measure => simp [intOf]; omega
      · obtain rfl : k = n := by omega
        have hrl : (rowP d.data.toList A S z k).length = z := rowP_len d.data.toList Hp.out (by rw [Hsum.out]; exact Nat.le_refl _)
        have hcv := (bytesAt_of hrow.out).conv z z hrl
        clear hrl
        go_wp2_with fail
        go_ret2
        exact ⟨rfl, hE⟩

set_option maxHeartbeats 4000000 in
set_option maxRecDepth 100000 in
theorem put_any (w : World) (d : ByteArray) (v : Value) (n : Nat) (A S : Nat → Int) (size : Int) (hd : d.size ≤ 600) (hs : size ≤ 9223372036854775807) (h : IsPieces w v n A S) :
    Calls Tryd.prog 15 #[.string d, v, .int .i64 size] w fun e w' => e = .returned (.tuple #[.string (putV d n A S size), errOf (putE d.size n A S size)]) ∧ Ext w w' := by
  have hl : ∃ a cap, v = .slice a n cap := by
    rcases h with ⟨⟨a0, c0, rfl⟩, rfl⟩ | ⟨b, off, cap, rfl, hn, _⟩
    · exact ⟨_, _, rfl⟩
    · exact ⟨_, _, rfl⟩
  have c1 := fun w1 (hE : Ext w w1) => holeRight_any w1 v n A S size hs (h.ext hE)
  cases hB : holeB n A S size with
  | false =>
    have hE : putE d.size n A S size = 1 := by unfold putE; rw [hB]; rfl
    have ev : Hid (putV d n A S size = ⟨#[]⟩ ∧ putE d.size n A S size = 1) := Lib.hid ⟨by unfold putV; rw [hE]; rfl, hE⟩
    rw [hB] at c1
    have C1 := Lib.hid c1
    obtain ⟨a, cap, rfl⟩ := hl
    clear c1 hE hB h
    go_enter Tryd.func15, Tryd.ntmps15
    go_wp2_with fail
    refine (C1.out _ (Ext.refl _)).mono ?_; rintro e w1 ⟨rfl, hx1⟩
    go_wp2_with fail
    go_ret2
    exact ⟨ret_val (by rw [ev.out.1, ev.out.2]; rfl), hx1⟩
  | true =>
    have C2 := Lib.hid (fun w1 (hE : Ext w w1) => holeSize_any w1 v n A S (h.ext hE))
    by_cases hS : (d.size : Int) = sumW S n
    · have h0 : 0 ≤ size := by
        unfold holeB at hB
        simp only [Bool.and_eq_true, decide_eq_true_eq] at hB
        exact hB.1.1
      by_cases h4 : 4000 < size
      · have hE : putE d.size n A S size = 4 := by unfold putE; rw [hB, hS, if_pos h4]; simp
        have ev : Hid (putV d n A S size = ⟨#[]⟩ ∧ putE d.size n A S size = 4) := Lib.hid ⟨by unfold putV; rw [hE]; rfl, hE⟩
        have q1 : ((d.size : Int) != sumW S n) = false := by rw [hS]; simp
        have q2 : decide ((4000 : Int) < size) = true := decide_eq_true h4
        rw [hB] at c1
        have C1 := Lib.hid c1
        obtain ⟨a, cap, rfl⟩ := hl
        clear c1 hE hB hS h
        generalize sumW S n = sm at *
        go_enter Tryd.func15, Tryd.ntmps15
        go_wp2_with fail
        refine (C1.out _ (Ext.refl _)).mono ?_; rintro e w1 ⟨rfl, hx1⟩
        go_wp2_with fail
        refine (C2.out _ hx1).mono ?_; rintro e w2 ⟨rfl, hx2⟩
        go_wp2_with fail
        go_ret2
        exact ⟨ret_val (by rw [ev.out.1, ev.out.2]; rfl), hx1.trans hx2⟩
      · obtain ⟨z, rfl⟩ := Int.eq_ofNat_of_zero_le h0
        have hE : putE d.size n A S z = 0 := by unfold putE; rw [hB, hS, if_neg h4]; simp
        have hV : putV d n A S z = ⟨(rowP d.data.toList A S z n).toArray⟩ := by unfold putV; rw [hE]; rfl
        rw [hV, hE]
        exact put_good w d v n A S z hd h hB hS (by omega)
    · have hE : putE d.size n A S size = 1 := by unfold putE; rw [hB, if_neg (by simpa using hS)]
      have ev : Hid (putV d n A S size = ⟨#[]⟩ ∧ putE d.size n A S size = 1) := Lib.hid ⟨by unfold putV; rw [hE]; rfl, hE⟩
      have q1 : ((d.size : Int) != sumW S n) = true := by simpa using hS
      rw [hB] at c1
      have C1 := Lib.hid c1
      obtain ⟨a, cap, rfl⟩ := hl
      clear c1 hE hB hS h
      generalize sumW S n = sm at *
      go_enter Tryd.func15, Tryd.ntmps15
      go_wp2_with fail
      refine (C1.out _ (Ext.refl _)).mono ?_; rintro e w1 ⟨rfl, hx1⟩
      go_wp2_with fail
      refine (C2.out _ hx1).mono ?_; rintro e w2 ⟨rfl, hx2⟩
      go_wp2_with fail
      go_ret2
      exact ⟨ret_val (by rw [ev.out.1, ev.out.2]; rfl), hx1.trans hx2⟩
end Go.Proofs.YtedcibjnnihhfaaDoor
