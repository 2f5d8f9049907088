/-
  strings.SplitSeq at a comma: its iterator's word. No conditions but the text's length.
-/
import Derived.RangeFuncBox
import Derived.Lib.SplitLaws
import Derived.Lib.IndexBytes
import Derived.Test.YtbofobakphlpbaaDoorSeqLaw
import Derived.Test.YtbofobakphlpbaaDoorShelf
import Derived.Test.YtbofobakphlpbaaDoorChgO
namespace Go.Proofs.YtbofobakphlpbaaDoor
open Go.RowKit Go.WideShapes Go.Shelf
attribute [local go_sem] Oper.semAt_some

/-- A text cut at its commas. -/
def cmS (s : ByteArray) : List ByteArray := Lib.splitB ⟨#[44]⟩ 0 (Lib.countB s ⟨#[44]⟩) s
theorem cmS_miss {u : ByteArray} (h : Lib.indexByte u.data.toList 44 = -1) : cmS u = [u] := by
  unfold cmS
  refine Lib.splitB_miss _ _ _ _ ?_
  show Lib.index u.data.toList [44] = -1
  rw [Lib.index_one, h]
theorem cmS_hit {u : ByteArray} {i : Nat} (h : Lib.indexByte u.data.toList 44 = (i : Int)) : cmS u = u.extract 0 i :: cmS (u.extract (i + 1) u.size) := by
  have h1 : Lib.index u.data.toList [44] = (i : Int) := by rw [Lib.index_one, h]
  have hc : Lib.countB u ⟨#[44]⟩ = Lib.countB (u.extract (i + 1) u.size) ⟨#[44]⟩ + 1 := by
    have := Lib.count_hit (sub := [44]) (by simp) h1
    show Lib.count u.data.toList [44] = Lib.count (u.extract (i + 1) u.size).data.toList [44] + 1
    have e : (u.extract (i + 1) u.size).data.toList = u.data.toList.drop (i + 1) := by
      rw [ByteArray.data_extract, Array.toList_extract, List.extract_eq_take_drop, List.take_of_length_le]
      rw [List.length_drop]
      exact Nat.le_refl _
    rw [e, this]
    show 1 + Lib.count (u.data.toList.drop (i + 1)) [44] = _
    omega
  unfold cmS
  rw [hc]
  rw [Lib.splitB]
  have hb : Lib.indexB u ⟨#[44]⟩ = (i : Int) := h1
  rw [if_neg (by rw [hb]; simp), hb]
  rfl
theorem ixc_lt {l : List UInt8} {c : UInt8} {i : Nat} (h : Lib.indexByte l c = (i : Int)) : i < l.length := by
  induction l generalizing i with
  | nil => simp [Lib.indexByte] at h
  | cons b t ih =>
    unfold Lib.indexByte at h
    split at h
    · simp; omega
    · split at h
      · omega
      · have hg := Lib.indexByte_ge t c
        obtain ⟨j, hj⟩ : ∃ j : Nat, Lib.indexByte t c = j := by
          rename_i h1 h2
          have : Lib.indexByte t c ≠ -1 := by simpa using h2
          exact ⟨(Lib.indexByte t c).toNat, by omega⟩
        have := ih hj
        simp
        omega

/-- What a round keeps: the iterator's three boxes. -/
def KpB (Bp Bs Bv : Nat) (W W' : World) : Prop := W'.heap[Bp]? = W.heap[Bp]? ∧ W'.heap[Bs]? = W.heap[Bs]? ∧ W'.heap[Bv]? = W.heap[Bv]?
theorem KpB.trans {Bp Bs Bv : Nat} {A B C : World} (h : KpB Bp Bs Bv A B) (k : KpB Bp Bs Bv B C) : KpB Bp Bs Bv A C := ⟨k.1.trans h.1, k.2.1.trans h.2.1, k.2.2.trans h.2.2⟩
def cellSz (B : Nat) (W : World) : Nat := match W.cell? ⟨B, 0, none⟩ with
  | some (.string t) => t.size
  | _ => 0
theorem cellSz_eq {B : Nat} {W : World} {t : TypeId} {u : ByteArray} (h : Boxed W B t (.string u)) : cellSz B W = u.size := by
  unfold cellSz
  rw [h.cell]

theorem ixc_any (s : ByteArray) (w : World) : Calls Tryd.prog 71 #[.string s, .string ⟨#[44]⟩] w fun e w' => e = .returned (.int .i64 (Lib.indexByte s.data.toList 44)) ∧ w' = w := Tryd.strings_Index_one s 44 w

set_option maxHeartbeats 4000000 in
set_option maxRecDepth 100000 in
theorem seq_split (w : World) (s : ByteArray) (Bp Bs Bv : Nat) (hne1 : Bp ≠ Bs) (hne2 : Bv ≠ Bs) (hs : s.size ≤ 100000) (hP : Boxed w Bp 9 (.string ⟨#[44]⟩)) (hB : Boxed w Bs 9 (.string s)) (hV : Boxed w Bv 3 (.int .i64 0)) :
    SeqCell Fence.wide 3 Tryd.prog 72 #[.pointer (some ⟨Bp, 0, none⟩), .pointer (some ⟨Bs, 0, none⟩), .pointer (some ⟨Bv, 0, none⟩)] (fun x : ByteArray => #[.string x]) (KpB Bp Bs Bv) (fun ys => ys = cmS s) (fun pre => pre <+: cmS s) (cmS s).length Bs w := by
  intro l J Jx W hW hJ hJx hY h0
  have bP : Boxed W Bp 9 (.string ⟨#[44]⟩) := (hW.block Bp hP.lt).trans hP
  have bB : Boxed W Bs 9 (.string s) := (hW.block Bs hB.lt).trans hB
  have bV : Boxed W Bv 3 (.int .i64 0) := (hW.block Bv hV.lt).trans hV
  have cP := bP.cell
  refine callsIn_of_wp Tryd.func72 rfl trivial ?_ rfl
  simp only [Tryd.ntmps72, List.size_toArray, List.length_cons, List.length_nil, Nat.reduceAdd, Nat.reduceSub, Array.replicate_succ, Array.replicate_zero, List.push_toArray, List.append_toArray, List.nil_append, List.cons_append]
  gi_wp2
  clear cP
  gi_loopw [7] (fun _ wr => ∃ (pre : List ByteArray) (u : ByteArray), u.size ≤ s.size ∧ Hid (cmS s = pre ++ cmS u) ∧ J pre wr ∧ Boxed wr Bp 9 (.string ⟨#[44]⟩) ∧ Boxed wr Bs 9 (.string u) ∧ Boxed wr Bv 3 (.int .i64 0)) (fun _ wr => cellSz Bs wr)
  case atStart => exact ⟨[], s, Nat.le_refl _, Lib.hid rfl, h0, bP, bB, bV⟩
  case round =>
    obtain ⟨pre, u, hu, hcm, hJs, xP, xB, xV⟩ := hrel
    have cP := xP.cell
    have cB := xB.cell
    have cV := xV.cell
    have fB := xB.frozen
    have lB := xB.lt
    have CI := Lib.hid (fun w => (callsIn_wide (n := 2)).2 (ixc_any u w))
    have hge := Lib.indexByte_ge u.data.toList 44
    rcases (show Lib.indexByte u.data.toList 44 = -1 ∨ ∃ i : Nat, Lib.indexByte u.data.toList 44 = (i : Int) by
      by_cases h : Lib.indexByte u.data.toList 44 = -1
      · exact .inl h
      · exact .inr ⟨(Lib.indexByte u.data.toList 44).toNat, by omega⟩) with hi | ⟨i, hi⟩
    · have hlast := cmS_miss hi
      rw [hi] at CI
      obtain ⟨fn, tmps, assign, body, hy, hR⟩ := hY pre u wr hJs (by rw [hcm.out, hlast]; simp)
      clear hi hge
      have hS : Hid (pre ++ [u] = cmS s) := Lib.hid (by rw [hcm.out, hlast])
      clear hlast
      gi_wp2_with (refine ⟨trivial, ?_⟩; gi_at_call 71; refine (CI.out _).mono ?_; rintro e w' ⟨rfl, rfl⟩)
      refine hR.mono ?_
      rintro e W3 (⟨rfl, hJ3, hk3⟩ | ⟨rfl, hJx3⟩)
      · gi_wp2
        go_end0
        exact ⟨⟨_, rfl⟩, .inl ⟨_, hS.out, hJ3⟩⟩
      · gi_wp2
        go_end0
        exact ⟨⟨_, rfl⟩, .inr ⟨_, by rw [hS.out]; exact List.prefix_refl _, hJx3⟩⟩
    · have hil : i < u.size := ixc_lt hi
      have hst := cmS_hit hi
      rw [hi] at CI
      obtain ⟨fn, tmps, assign, body, hy, hR⟩ := hY pre (u.extract 0 i) wr hJs (by rw [hcm.out, hst]; simp)
      clear hi hge
      have hS : Hid (cmS s = (pre ++ [u.extract 0 i]) ++ cmS (u.extract (i + 1) u.size)) := Lib.hid (by rw [hcm.out, hst]; simp)
      have hsz : Hid ((u.extract (i + 1) u.size).size < u.size) := Lib.hid (by rw [ByteArray.size_extract]; omega)
      have hz := Lib.hid (cellSz_eq xB)
      clear hst
      have i1 : (i : Int) ≤ u.size := by omega
      have i2 : (i : Int) + 1 ≤ u.size := by omega
      have i3 : ¬ (i : Int) < 0 := by omega
      gi_wp2_with (refine ⟨trivial, ?_⟩; gi_at_call 71; refine (CI.out _).mono ?_; rintro e w' ⟨rfl, rfl⟩)
      refine hR.mono ?_
      rintro e W3 (⟨rfl, hJ3, hk3⟩ | ⟨rfl, hJx3⟩)
      · have yP : Boxed W3 Bp 9 (.string ⟨#[44]⟩) := hk3.1.trans xP
        have yB : Boxed W3 Bs 9 (.string u) := hk3.2.1.trans xB
        have yV : Boxed W3 Bv 3 (.int .i64 0) := hk3.2.2.trans xV
        have dP := yP.cell
        have dB := yB.cell
        have gB := yB.frozen
        have mB := yB.lt
        gi_wp2
        go_roundw
        case rel => exact ⟨pre ++ [u.extract 0 i], u.extract (i + 1) u.size, by have := hsz.out; omega, hS, hJ _ _ _ hJ3, yP.other hne1 _, yB.set _, yV.other hne2 _⟩
        case measure =>
          show cellSz Bs _ < cellSz Bs _
          rw [cellSz_eq (yB.set _), hz.out]
          exact hsz.out
      · gi_wp2
        refine bodyPost_ret (results_none rfl _ _ _) rfl ?_
        exact ⟨⟨_, rfl⟩, .inr ⟨_, ⟨_, hS.out.symm⟩, hJx3⟩⟩
end Go.Proofs.YtbofobakphlpbaaDoor
