/-
  pax.Read: its walk. No conditions but the text's length.
-/
import Derived.Test.YtbofobakphlpbaaDoorPrF
import Derived.Test.YtbofobakphlpbaaDoorPrs
import Derived.Test.YtbofobakphlpbaaDoorPlacedL
namespace Go.Proofs.YtbofobakphlpbaaDoor
open Go.RowKit Go.WideShapes Go.PlainAid

/-- The records of a text, from a place on, behind those that are read. -/
def readV (rc : ByteArray → Option (ByteArray × ByteArray × Nat)) (s : ByteArray) : Nat → Nat → List (ByteArray × ByteArray) → List (ByteArray × ByteArray) × Int × Int
  | 0, _, l => (l, 0, -1)
  | f + 1, a, l => if s.size ≤ a then (l, 0, -1) else
    match rc (s.extract a s.size) with
    | none => ([], 3, (a : Int))
    | some (k, v, n) => if l.length = 20 then ([], 4, (a : Int)) else readV rc s f (a + n) (l ++ [(k, v)])
theorem readV_end {rc : ByteArray → Option (ByteArray × ByteArray × Nat)} {s : ByteArray} {f a : Nat} {l : List (ByteArray × ByteArray)} (h : s.size ≤ a) : readV rc s f a l = (l, 0, -1) := by
  cases f with
  | zero => rfl
  | succ f => unfold readV; rw [if_pos h]
theorem readV_none {rc : ByteArray → Option (ByteArray × ByteArray × Nat)} {s : ByteArray} {f a : Nat} {l : List (ByteArray × ByteArray)} (h : ¬ s.size ≤ a) (hr : rc (s.extract a s.size) = none) : readV rc s (f + 1) a l = ([], 3, (a : Int)) := by
  unfold readV
  rw [if_neg h, hr]
theorem readV_some {rc : ByteArray → Option (ByteArray × ByteArray × Nat)} {s : ByteArray} {f a n : Nat} {l : List (ByteArray × ByteArray)} {k v : ByteArray} (h : ¬ s.size ≤ a) (hr : rc (s.extract a s.size) = some (k, v, n)) :
    readV rc s (f + 1) a l = if l.length = 20 then ([], 4, (a : Int)) else readV rc s f (a + n) (l ++ [(k, v)]) := by
  conv => lhs; unfold readV
  rw [if_neg h, hr]
/-- Pairs and an error with a place come back. -/
def GivesPrs (V : List (ByteArray × ByteArray) × Int × Int) (w : World) (e : Ending) (w' : World) : Prop := ∃ v x, e = .returned (.tuple #[v, x]) ∧ IsPrs w' v V.1 ∧ IsErr w' x V.2.1 V.2.2 ∧ Ext w w'

set_option maxHeartbeats 8000000 in
set_option maxRecDepth 100000 in
theorem paxRead_any (rc : ByteArray → Option (ByteArray × ByteArray × Nat)) (hrc : ∀ u, IsFirst u (rc u)) (s : ByteArray) (hs : s.size ≤ 600) (w : World) (hm : HasMax w) (ht : HasPow w) (hsy : HasSyn w) :
    Calls Tryd.prog 17 #[.string s] w (GivesPrs (readV rc s (s.size + 1) 0 []) w) := by
  obtain ⟨i0, hi, hz0, hz1, hz2⟩ := info_parts infoPair
  obtain ⟨RV, hRV⟩ : ∃ RV, RV = readV rc s (s.size + 1) 0 [] := ⟨_, rfl⟩
  rw [← hRV]
  have HRV := Lib.hid hRV.symm
  have Hrc := Lib.hid hrc
  clear hRV hrc
  go_enter Tryd.func17, Tryd.ntmps17
  go_wp2_with fail
  go_loopw [4, 5] (fun v i wr => ∃ (f a : Nat) (l : List (ByteArray × ByteArray)), a ≤ s.size ∧ s.size + 1 ≤ a + f ∧ i = .int .i64 (a : Int) ∧ l.length ≤ 20 ∧ Hid (readV rc s f a l = RV) ∧ wr.ownsRow w.heap.size 84 2 v l.length (cellsB l) ∧ Ext w wr) (fun _ i _ => s.size - (intOf i).toNat)
  case atStart => exact ⟨s.size + 1, 0, [], Nat.zero_le _, by omega, rfl, Nat.zero_le _, HRV, World.ownsRow_nil _ _ _ _, Ext.refl _⟩
  case round =>
    obtain ⟨f, a, l, ha, hf, rfl, hl, hV, hown, hE⟩ := hrel
    obtain ⟨oa, cap, rfl⟩ := ownP_open hown
    by_cases hlt : a < s.size
    · obtain ⟨f, rfl⟩ : ∃ f', f = f' + 1 := ⟨f - 1, by omega⟩
      have hus : (s.extract a s.size).size = s.size - a := by rw [ByteArray.size_extract]; omega
      have CF := Lib.hid (first_any (s.extract a s.size) (by omega) _ (Hrc.out _) wr (hm.ext hE) (ht.ext hE) (hsy.ext hE))
      have Hown := Lib.hid hown
      cases hr : rc (s.extract a s.size) with
      | none =>
        as_aux_lemma =>
          have hn : Hid (RV = ([], 3, (a : Int))) := Lib.hid (by rw [← hV.out]; exact readV_none (by omega) hr)
          rw [hr] at CF
          clear hr hV Hrc HRV hown Hown hus
          simp only [firstR] at CF
          go_wp2_with fail
          refine CF.out.mono ?_; rintro e w1 ⟨rfl, hx1⟩
          go_wp2_with fail
          go_ret2
          exact ⟨_, _, rfl, by rw [hn.out]; exact .inl ⟨⟨_, _, rfl⟩, rfl⟩, by rw [hn.out]; exact .inr ⟨_, rfl, by simp, by simp⟩, ((hE.trans hx1).alloc _).alloc _⟩
      | some x =>
        obtain ⟨k, v, n⟩ := x
        have hrec := (Hrc.out _).1 _ _ _ hr
        have hn1 := hrec.2.1
        have hn4 := (rec_parts hrec).2.2.2.1
        rw [hus] at hn1
        have hn3 : 3 ≤ n := by omega
        have hst := Lib.hid (readV_some (f := f) (l := l) (show ¬ s.size ≤ a by omega) hr)
        rw [hr] at CF
        simp only [firstR] at CF
        clear hr hrec hn4
        by_cases h20 : l.length = 20
        · as_aux_lemma =>
            have hn : Hid (RV = ([], 4, (a : Int))) := Lib.hid (by rw [← hV.out, hst.out, if_pos h20])
            have q : ((l.length : Int) == 20) = true := by rw [beq_iff_eq]; omega
            clear hV Hrc HRV hown Hown hus hst h20
            go_wp2_with fail
            refine CF.out.mono ?_; rintro e w1 ⟨rfl, hx1⟩
            go_wp2_with fail
            go_ret2
            exact ⟨_, _, rfl, by rw [hn.out]; exact .inl ⟨⟨_, _, rfl⟩, rfl⟩, by rw [hn.out]; exact .inr ⟨_, rfl, by simp, by simp⟩, ((hE.trans hx1).alloc _).alloc _⟩
        · as_aux_lemma =>
            have hV2 : Hid (readV rc s f (a + n) (l ++ [(k, v)]) = RV) := Lib.hid (by rw [← hV.out, hst.out, if_neg h20])
            have q : ((l.length : Int) == 20) = false := by rw [beq_eq_false_iff_ne]; omega
            have hl2 : l.length < 20 := by omega
            clear hV Hrc HRV hown hus hst h20
            go_wp2_with fail
            refine CF.out.mono ?_; rintro e w1 ⟨rfl, hx1⟩
            have hown1 := (ownP_ext Hown.out hx1).alloc (.cells #[.string k, .string v] 84)
            have hE1 := hE.trans hx1
            have hzs := hE1.size
            clear Hown
            go_wp2_with (at_builtin; refine wpList_append_own _ rfl _ _ 44 rfl w.heap.size 84 i0 (.agg #[.string ByteArray.empty, .string ByteArray.empty]) 2 32 Tryd.underlying44 hi hz0 hz1 hz2 rfl (by decide) _ _ _ rfl (hown1.alloc _) ⟨w1.heap.size + 1, 0, none⟩ 1 1 [.string k, .string v] rfl rfl ?c1 ?c2 ?c3 ?c4 ?c5 ?_)
            case c1 =>
              intro j u hj
              match j, hj with
              | 0, hj => simp at hj; subst hj; simp [Addr.add]
              | 1, hj => simp at hj; subst hj; simp [Addr.add]
            case c2 => intro u hu; simp at hu; rcases hu with rfl | rfl <;> rfl
            case c3 => unfold maxLen; omega
            case c4 => omega
            case c5 => simp; omega
            intro v' w3 hown3 hgrow _
            have hE3 : Ext w w3 := ((hE1.alloc _).alloc _).ofGrown hgrow (fun j hj => ownP_ge hown1 (Nat.le_refl _) j hj)
            have Hn : Hid (w3.ownsRow w.heap.size 84 2 v' (l ++ [(k, v)]).length (cellsB (l ++ [(k, v)]))) := Lib.hid (by rw [cellsB_append, List.length_append]; exact hown3)
            have hl3 : (l ++ [(k, v)]).length ≤ 20 := by rw [List.length_append]; show l.length + 1 ≤ 20; omega
            clear hown1 hown3 hgrow
            go_wp2_with fail
            go_roundw
            case rel => exact ⟨f, a + n, l ++ [(k, v)], by omega, by omega, by go_num, hl3, hV2, Hn.out, hE3⟩
            case measure => simp [intOf]; omega
    · obtain rfl : a = s.size := by omega
      as_aux_lemma =>
        have hn : Hid (RV = (l, 0, -1)) := Lib.hid (by rw [← hV.out]; exact readV_end (Nat.le_refl _))
        have HS := Lib.hid (IsPrs.ofOwns hown)
        clear hV hown
        go_wp2_with fail
        go_ret2
        exact ⟨_, _, rfl, by rw [hn.out]; exact HS.out, by rw [hn.out]; exact .inl ⟨rfl, rfl⟩, hE⟩
end Go.Proofs.YtbofobakphlpbaaDoor
