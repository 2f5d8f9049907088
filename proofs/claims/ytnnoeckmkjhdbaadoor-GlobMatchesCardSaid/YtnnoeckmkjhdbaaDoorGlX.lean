/-
  Tokens matched against a name, place by place. No conditions but bounds.
-/
import Derived.Test.YtnnoeckmkjhdbaaDoorGlT
import Derived.Test.YtnnoeckmkjhdbaaDoorGlK
import Derived.Laws.MakeOwn
import Derived.Deep.MidRow
import Derived.Deep.WholeRow
namespace Go.Proofs.YtnnoeckmkjhdbaaDoor
open Go.RowKit Go.PlainAid

theorem tokInfo3 {m d : Bool} {g : Int → Bool} : (Tryd.prog.info? 52).map (·.size) = some (tokRow m d g).size := by rw [tokRow_size]; exact tokInfo
theorem tokInfo4 {m d : Bool} {g : Int → Bool} : (Tryd.prog.info? 52).map (·.size) = some (tokRow m d g).toList.length := by rw [Array.length_toList]; exact tokInfo3
theorem tokSize3 {m d : Bool} {g : Int → Bool} : zTok.size = (tokRow m d g).size := by rw [zeroTok, tokRow_size, tokRow_size]
/-- Bools in memory. -/
def bRow (r : Nat → Bool) (m : Nat) : Array Value := Array.ofFn (n := m) fun i => Value.bool (r i.val)
theorem bRow_size (r : Nat → Bool) (m : Nat) : (bRow r m).size = m := by simp [bRow]
theorem bRow_get (r : Nat → Bool) {m i : Nat} (h : i < m) : (bRow r m)[i]? = some (.bool (r i)) := by simp [bRow, h]
def updN (r : Nat → Bool) (i : Nat) (b : Bool) : Nat → Bool := fun k => if k = i then b else r k
theorem bRow_set (r : Nat → Bool) (m i : Nat) (b : Bool) : (bRow r m).setIfInBounds i (.bool b) = bRow (updN r i b) m := by
  apply Array.ext_getElem?
  intro k
  by_cases hk : k < m
  · rw [bRow_get _ hk]
    unfold updN
    by_cases e : i = k
    · subst e
      rw [Array.getElem?_setIfInBounds_self_of_lt (by rw [bRow_size]; exact hk), if_pos rfl]
    · rw [Array.getElem?_setIfInBounds_ne e, bRow_get _ hk, if_neg (fun h => e h.symm)]
  · rw [Array.getElem?_eq_none (by rw [Array.size_setIfInBounds, bRow_size]; omega), Array.getElem?_eq_none (by rw [bRow_size]; omega)]
theorem bRow_made (m : Nat) : madeCells (Value.bool false).cells m = bRow (fun _ => false) m := by
  apply Array.ext_getElem?
  intro k
  by_cases hk : k < m
  · rw [bRow_get _ hk]
    simp [madeCells, hk, Value.cells, Nat.mod_one]
  · rw [Array.getElem?_eq_none (by rw [size_madeCells]; omega), Array.getElem?_eq_none (by rw [bRow_size]; omega)]
theorem bRow_congr {r r' : Nat → Bool} {m : Nat} (h : ∀ i, i < m → r i = r' i) : bRow r m = bRow r' m := by
  apply Array.ext_getElem?
  intro k
  by_cases hk : k < m
  · rw [bRow_get _ hk, bRow_get _ hk, h k hk]
  · rw [Array.getElem?_eq_none (by rw [bRow_size]; omega), Array.getElem?_eq_none (by rw [bRow_size]; omega)]
/-- Block b is m bools. -/
def BsAt (w : World) (b : Nat) (r : Nat → Bool) (m : Nat) : Prop := w.heap[b]? = some (.cells (bRow r m) 4 (0, 0))
variable {w w' : World} {b m : Nat} {r : Nat → Bool}
theorem BsAt.lt (h : BsAt w b r m) : b < w.heap.size := (Array.getElem?_eq_some_iff.1 h).1
theorem BsAt.cell (h : BsAt w b r m) {i : Nat} (hi : i < m) : w.cell? ⟨b, i, none⟩ = some (.bool (r i)) := by
  unfold BsAt at h
  simp only [World.cell?, h]
  exact bRow_get r hi
theorem BsAt.fz (h : BsAt w b r m) (o : Nat) : w.frozen? ⟨b, o, none⟩ = false := by
  unfold BsAt at h
  simp [World.frozen?, h]
theorem BsAt.ext (h : BsAt w b r m) (e : Ext w w') : BsAt w' b r m := (e.block b h.lt).trans h
theorem BsAt.put (h : BsAt w b r m) (i : Nat) (v : Bool) : BsAt (w.setCell ⟨b, i, none⟩ (.bool v)) b (updN r i v) m := by
  have := cellsG_setCell (i := i) (v := .bool v) h
  rwa [bRow_set] at this
theorem BsAt.other (h : BsAt w b r m) {p : Addr} (hp : b ≠ p.block) (v : Value) : BsAt (w.setCell p v) b r m := by
  unfold BsAt at h ⊢
  rw [Below.heap_setCell _ _ _ _ hp]
  exact h
def nxtF (t : Tok) (n : ByteArray) (r : Nat → Bool) (i : Nat) : Nat → Bool := fun k => if k < i then stepF t n r k else false
theorem nxt_step (t : Tok) (n : ByteArray) (r : Nat → Bool) (i : Nat) : updN (nxtF t n r i) i (stepF t n r i) = nxtF t n r (i + 1) := by
  funext k
  unfold updN nxtF
  by_cases h : k = i
  · rw [if_pos h, h, if_pos (Nat.lt_succ_self _)]
  · rw [if_neg h]
    by_cases h2 : k < i
    · rw [if_pos h2, if_pos (by omega)]
    · rw [if_neg h2, if_neg (by omega)]
theorem stepF_congr (t : Tok) (n : ByteArray) {r r' : Nat → Bool} {m : Nat} (h : ∀ i, i ≤ m → r i = r' i) : ∀ i, i ≤ m → stepF t n r i = stepF t n r' i
  | 0, hi => by
    unfold stepF
    rw [h 0 hi]
  | i + 1, hi => by
    unfold stepF
    rw [h (i + 1) hi, h i (by omega), stepF_congr t n h i (by omega)]
/-- The second loop's state: what is reached behind the token so far, the places reached ahead of it, the token. -/
def R2 (w wq : World) (t : Tok) (n : ByteArray) (r : Nat → Bool) (tb nb b i : Nat) : Prop := BsAt wq nb (nxtF t n r i) (n.size + 1) ∧ BsAt wq b r (n.size + 1) ∧ TokAt wq tb t.many t.deep t.set ∧ Ext w wq ∧ b ≠ nb ∧ tb ≠ nb ∧ w.heap.size ≤ nb
variable {wq : World} {t : Tok} {n : ByteArray} {tb nb i k : Nat}
theorem R2.put (h : R2 w wq t n r tb nb b i) {v : Bool} (hv : stepF t n r i = v) : R2 w (wq.setCell ⟨nb, i, none⟩ (.bool v)) t n r tb nb b (i + 1) := by
  obtain ⟨h1, h2, h3, h4, h5, h6, h7⟩ := h
  refine ⟨?_, h2.other h5 _, h3.other h6 _, h4.setCell h7 _, h5, h6, h7⟩
  rw [← nxt_step, hv]
  exact h1.put i v
theorem R2.keep (h : R2 w wq t n r tb nb b i) (hv : stepF t n r i = false) : R2 w wq t n r tb nb b (i + 1) := by
  obtain ⟨h1, h2, h3, h4, h5, h6, h7⟩ := h
  refine ⟨?_, h2, h3, h4, h5, h6, h7⟩
  unfold BsAt at h1 ⊢
  rwa [bRow_congr (r' := nxtF t n r (i + 1)) (fun k _ => by
    unfold nxtF
    by_cases h1 : k < i
    · rw [if_pos h1, if_pos (by omega)]
    · rw [if_neg h1]
      by_cases h2 : k < i + 1
      · have : k = i := by omega
        rw [if_pos h2, this, hv]
      · rw [if_neg h2])] at h1
theorem R2.back (h : R2 w wq t n r tb nb b i) (hk : k < i) (hi : i ≤ n.size + 1) : wq.cell? ⟨nb, k, none⟩ = some (.bool (stepF t n r k)) := by
  have := h.1.cell (i := k) (by omega)
  unfold nxtF at this
  rwa [if_pos hk] at this
theorem R2.was (h : R2 w wq t n r tb nb b i) (hk : k < n.size + 1) : wq.cell? ⟨b, k, none⟩ = some (.bool (r k)) := h.2.1.cell hk
theorem R2.here (h : R2 w wq t n r tb nb b i) (hk : i < n.size + 1) : wq.cell? ⟨nb, i, none⟩ = some (.bool (nxtF t n r i i)) := h.1.cell hk
theorem step_z (hm : t.many = true) (hr : r 0 = false) : stepF t n r 0 = false := by
  show (t.many && r 0) = false
  rw [hr, Bool.and_false]
theorem step_n0 (hm : t.many = false) : stepF t n r 0 = false := by
  show (t.many && r 0) = false
  rw [hm, Bool.false_and]
theorem step_m (hm : t.many = true) (hr : r (k + 1) = false) : stepF t n r (k + 1) = (stepF t n r k && (t.deep || !(bt n k == 47))) := by
  show (if t.many = true then r (k + 1) || (stepF t n r k && (t.deep || !(bt n k == 47))) else _) = _
  rw [if_pos hm, hr, Bool.false_or]
theorem step_n (hm : t.many = false) : stepF t n r (k + 1) = (r k && t.set (bt n k)) := by
  show (if t.many = true then _ else r k && t.set (bt n k)) = _
  rw [if_neg (by rw [hm]; decide)]
theorem reach_take {l : List Tok} {j : Nat} (hlt : j < l.length) (ht : t = l[j]) (hr : ∀ i, i ≤ n.size → r i = reachV (l.take j) n (fun i => i == 0) i) : ∀ i, i ≤ n.size → nxtF t n r (n.size + 1) i = reachV (l.take (j + 1)) n (fun i => i == 0) i := by
  intro i hi
  unfold nxtF
  rw [if_pos (by omega), List.take_add_one, List.getElem?_eq_getElem hlt, ← ht]
  show _ = reachV (l.take j ++ [t]) n (fun i => i == 0) i
  unfold reachV
  rw [List.foldl_append]
  show stepF t n r i = stepF t n (reachV (l.take j) n (fun i => i == 0)) i
  exact stepF_congr t n (fun m hm => hr m (by omega)) i (Nat.le_refl _)
theorem eq_num {a b : Nat} (h : a = b + 1) : (a : Int) - 1 = (b : Int) := by omega
theorem lt_num {a m : Nat} (h : a < m + 1) : (a : Int) < (m : Int) + 1 := by omega
theorem bt_nat (n : ByteArray) (k : Nat) : ∃ c : Nat, bt n k = (c : Int) ∧ c < 256 ∧ (c : Int) < 256 := by
  have := bt_rng n k
  exact ⟨(bt n k).toNat, by omega, by omega, by omega⟩
theorem infoBool : (Tryd.prog.info? 4).map (fun i => (i.zero, i.size, i.bytes)) = some (some (.bool false), 1, 1) := by kernel_rfl
theorem make_bools (n : Nat) (hn : n ≤ 100000) (w : World) : (Instr.makeSlice 55 (.int .i64 ((n : Int) + 1)) (.int .i64 ((n : Int) + 1))).run Tryd.prog w = .ok (.slice (some ⟨w.heap.size, 0, none⟩) (n + 1) (n + 1)) (w.alloc (.cells (bRow (fun _ => false) (n + 1)) 4)) := by
  obtain ⟨i0, hi, hz0, hz1, hz2⟩ := info_parts infoBool
  have h := run_make (P := Tryd.prog) w 55 4 i0 (.bool false) Tryd.underlying55 hi hz0 .i64 .i64 ((n : Int) + 1) ((n : Int) + 1) (by omega) (Int.le_refl _) (by rw [hz2]; omega) (by omega)
  rw [show ((n : Int) + 1).toNat = n + 1 by omega, hz1, Nat.mul_one, bRow_made] at h
  exact h
set_option maxHeartbeats 4000000 in
set_option maxRecDepth 100000 in
theorem matches_any (l : List Tok) (n : ByteArray) (hn : n.size ≤ 100000) (oa : Option Addr) (cap : Nat) (w : World) (hll : l.length ≤ 1000000)
    (hat : ∀ k (hk : k < l.length), ∃ g, oa = some ⟨g, 0, none⟩ ∧ g < w.heap.size ∧ w.rangeAt g (k * 258) (tokRow l[k].many l[k].deep l[k].set).toList) :
    Calls Tryd.prog 10 #[.slice oa l.length cap, .string n] w fun x w' => x = .returned (.bool (reachV l n (fun i => i == 0) n.size)) ∧ Ext w w' := by
  have Hat := Lib.hid hat
  have hmk := fun W => make_bools n.size hn W
  have gb := get_bt n
  have hs0 : BsAt (w.alloc (.cells (bRow (fun _ => false) (n.size + 1)) 4)) w.heap.size (fun _ => false) (n.size + 1) := (MapKept.heap_alloc w _).1
  have c0 := hs0.cell (i := 0) (by omega)
  have f0 := hs0.fz 0
  have l0 := hs0.lt
  have HB0 : Hid (BsAt (w.alloc (.cells ((bRow (fun _ => false) (n.size + 1)).setIfInBounds 0 (.bool true)) 4)) w.heap.size (updN (fun _ => false) 0 true) (n.size + 1)) := Lib.hid (by rw [bRow_set]; exact (MapKept.heap_alloc w _).1)
  clear hat hs0
  go_enter Tryd.func10, Tryd.ntmps10
  go_wp2_with fail
  go_loopw [5, 18] (fun v k wr => ∃ (j b : Nat) (r : Nat → Bool), v = .slice (some ⟨b, 0, none⟩) (n.size + 1) (n.size + 1) ∧ k = .int .i64 (j : Int) ∧ j ≤ l.length ∧ BsAt wr b r (n.size + 1) ∧ (∀ i, i ≤ n.size → r i = reachV (l.take j) n (fun i => i == 0) i) ∧ Ext w wr ∧ w.heap.size ≤ b) (fun _ k _ => l.length - (intOf k).toNat)
  case atStart => exact ⟨0, w.heap.size, _, rfl, rfl, Nat.zero_le _, HB0.out, (fun i hi => by
    show updN (fun _ => false) 0 true i = (i == 0)
    unfold updN
    by_cases h : i = 0
    · rw [if_pos h, h]; rfl
    · rw [if_neg h]
      simpa using h), (Ext.refl w).alloc _, Nat.le_refl _⟩
  case round =>
    obtain ⟨j, b, r, rfl, rfl, hj, hB, hr, hE, hbw⟩ := hrel
    have HB := Lib.hid hB
    have Hr := Lib.hid hr
    clear hB hr HB0 c0 f0 l0
    by_cases hlt : j < l.length
    · obtain ⟨g, hoa, hg, hrg⟩ := Hat.out j hlt
      subst hoa
      obtain ⟨t, ht⟩ : ∃ t, t = l[j]'hlt := ⟨_, rfl⟩
      rw [← ht] at hrg
      have Ht := Lib.hid ht
      clear ht
      have hrg2 : wr.rangeAt g (j * 258) (tokRow t.many t.deep t.set).toList := fun i v hv => hE.cell (hrg i v hv)
      have hgl : g < wr.heap.size := Nat.lt_of_lt_of_le hg hE.size
      obtain ⟨row, hrow, r1, r2, r3, r4⟩ : ∃ row : Array Value, row = tokRow t.many t.deep t.set ∧ (Tryd.prog.info? 52).map (·.size) = some row.toList.length ∧ zTok.size = row.size ∧ row.all (·.oneCell') = true ∧ (Tryd.prog.info? 52).map (·.size) = some row.size := ⟨_, rfl, tokInfo4, tokSize3, tokRow_one _ _ _, tokInfo3⟩
      rw [← hrow] at hrg2
      have RR1 := Lib.hid r1
      have RR2 := Lib.hid r2
      have RR3 := Lib.hid r3
      have RR4 := Lib.hid r4
      clear r1 r2 r3 r4
      have HRG := Lib.hid hrg2
      have HA := Lib.hid (show (wr.alloc (.cells zTok 52)).heap[wr.heap.size]? = some (.cells zTok 52 (0, 0)) from (MapKept.heap_alloc wr _).1)
      have HT0 : Hid (TokAt (wr.alloc (.cells row 52)) wr.heap.size t.many t.deep t.set) := Lib.hid (by
        unfold TokAt
        rw [← hrow]
        exact (MapKept.heap_alloc wr (.cells row 52)).1)
      have HROW := Lib.hid hrow
      clear hrow hrg hrg2
      go_wp2_with (first | (refine wpList_load_mid rfl 52 (.tmp 20) rfl g (j * 258) rfl row.toList _ HRG.out Tryd.underlying52 rfl RR1.out ?_; rw [Array.toArray_toList]) | (refine wpList_store_row rfl 52 (.tmp 7) (.tmp 21) rfl wr.heap.size row rfl rfl 52 _ HA.out RR4.out RR2.out RR3.out ?_; rw [World.setRow_alloc_new]))
      have hwr := hE.size
      have hbl := HB.out.lt
      have HQ0 : Hid (R2 w ((wr.alloc (.cells row 52)).alloc (.cells (bRow (fun _ => false) (n.size + 1)) 4)) t n r wr.heap.size (wr.heap.size + 1) b 0) := Lib.hid ⟨by
        have h := (MapKept.heap_alloc (wr.alloc (.cells row 52)) (.cells (bRow (fun _ => false) (n.size + 1)) 4)).1
        rw [World.size_alloc] at h
        exact h, HB.out.ext (((Ext.refl wr).alloc (.cells row 52)).alloc (.cells (bRow (fun _ => false) (n.size + 1)) 4)), HT0.out.ext ((Ext.refl _).alloc (.cells (bRow (fun _ => false) (n.size + 1)) 4)), (hE.alloc _).alloc _, by omega, by omega, by omega⟩
      go_loopw [28] (fun v wq => ∃ i : Nat, i ≤ n.size + 1 ∧ v = .int .i64 (i : Int) ∧ R2 w wq t n r wr.heap.size (wr.heap.size + 1) b i) (fun v _ => n.size + 1 - (intOf v).toNat)
      case atStart => exact ⟨0, Nat.zero_le _, rfl, HQ0.out⟩
      case round =>
        rename World => wq
        obtain ⟨i, hi, rfl, hQ⟩ := hrel
        clear HQ0 HB HT0 HA HRG RR1 RR2 RR3 RR4 HROW Hat hE
        have HQ := Lib.hid hQ
        by_cases hin : i < n.size + 1
        · have q1 : decide ((i : Int) < (n.size : Int) + 1) = true := decide_eq_true (lt_num hin)
          have q1b : (i : Int) < (n.size : Int) + 1 := lt_num hin
          have cm := hQ.2.2.1.c0
          have cd := hQ.2.2.1.c1
          have tl := hQ.2.2.1.lt
          have cr := hQ.was hin
          have bl := hQ.2.1.lt
          have cn := hQ.here hin
          have fn := hQ.1.fz i
          have nl := hQ.1.lt
          clear hQ
          cases hm : t.many with
          | true =>
            rw [hm] at cm
            cases ri : r i with
            | true =>
              rw [ri] at cr
              have HZ : Hid (R2 w (wq.setCell ⟨wr.heap.size + 1, i, none⟩ (.bool true)) t n r wr.heap.size (wr.heap.size + 1) b (i + 1)) := Lib.hid (HQ.out.put (step_to hm ri))
              go_wp2_with fail
              go_roundw
              case rel => exact ⟨i + 1, hin, by go_num, HZ.out⟩
              case measure => simp [intOf]; omega
            | false =>
              rw [ri] at cr
              rcases Nat.eq_zero_or_pos i with h0 | h0
              · have q2 : decide ((0 : Int) < (i : Int)) = false := decide_eq_false (by omega)
                have q2n : ¬ 0 < i := by omega
                have hz : stepF t n r i = false := by rw [h0] at ri ⊢; exact step_z hm ri
                have HS := Lib.hid hz
                clear h0 hz
                have HZ : Hid (R2 w (wq.setCell ⟨wr.heap.size + 1, i, none⟩ (.bool false)) t n r wr.heap.size (wr.heap.size + 1) b (i + 1)) := Lib.hid (HQ.out.put (HS.out))
                go_wp2_with fail
                go_roundw
                case rel => exact ⟨i + 1, hin, by go_num, HZ.out⟩
                case measure => simp [intOf]; omega
              · have q2 : decide ((0 : Int) < (i : Int)) = true := decide_eq_true (by omega)
                obtain ⟨k, hk⟩ : ∃ k, i = k + 1 := ⟨i - 1, by omega⟩
                have e1 := eq_num hk
                have kb : k < n.size + 1 := by omega
                have kn : (k : Int) < (n.size : Int) := by omega
                have ck := HQ.out.back (k := k) (by omega) hi
                have hst : stepF t n r i = (stepF t n r k && (t.deep || !(bt n k == 47))) := by rw [hk] at ri ⊢; exact step_m hm ri
                have HST := Lib.hid hst
                clear hst hk
                cases sk : stepF t n r k with
                | false =>
                  rw [sk] at ck
                  have HZ : Hid (R2 w (wq.setCell ⟨wr.heap.size + 1, i, none⟩ (.bool false)) t n r wr.heap.size (wr.heap.size + 1) b (i + 1)) := Lib.hid (HQ.out.put (by rw [HST.out, sk]; rfl))
                  go_wp2_with fail
                  go_roundw
                  case rel => exact ⟨i + 1, hin, by go_num, HZ.out⟩
                  case measure => simp [intOf]; omega
                | true =>
                  rw [sk] at ck
                  cases hd : t.deep with
                  | true =>
                    rw [hd] at cd
                    have HZ : Hid (R2 w (wq.setCell ⟨wr.heap.size + 1, i, none⟩ (.bool true)) t n r wr.heap.size (wr.heap.size + 1) b (i + 1)) := Lib.hid (HQ.out.put (by rw [HST.out, sk, hd]; rfl))
                    go_wp2_with fail
                    go_roundw
                    case rel => exact ⟨i + 1, hin, by go_num, HZ.out⟩
                    case measure => simp [intOf]; omega
                  | false =>
                    rw [hd] at cd
                    cases h47 : bt n k == 47 with
                    | true =>
                      have q5 : (bt n k != 47) = false := by simpa using h47
                      have HZ : Hid (R2 w (wq.setCell ⟨wr.heap.size + 1, i, none⟩ (.bool false)) t n r wr.heap.size (wr.heap.size + 1) b (i + 1)) := Lib.hid (HQ.out.put (by rw [HST.out, sk, hd, h47]; rfl))
                      go_wp2_with fail
                      go_roundw
                      case rel => exact ⟨i + 1, hin, by go_num, HZ.out⟩
                      case measure => simp [intOf]; omega
                    | false =>
                      have q5 : (bt n k != 47) = true := by simpa using h47
                      have HZ : Hid (R2 w (wq.setCell ⟨wr.heap.size + 1, i, none⟩ (.bool true)) t n r wr.heap.size (wr.heap.size + 1) b (i + 1)) := Lib.hid (HQ.out.put (by rw [HST.out, sk, hd, h47]; rfl))
                      go_wp2_with fail
                      go_roundw
                      case rel => exact ⟨i + 1, hin, by go_num, HZ.out⟩
                      case measure => simp [intOf]; omega
          | false =>
            rw [hm] at cm
            rcases Nat.eq_zero_or_pos i with h0 | h0
            · have q2 : decide ((0 : Int) < (i : Int)) = false := decide_eq_false (by omega)
              have q2n : ¬ 0 < i := by omega
              have hz : stepF t n r i = false := by rw [h0]; exact step_n0 hm
              have HS := Lib.hid hz
              clear h0 hz
              have HZ := Lib.hid (HQ.out.keep (HS.out))
              go_wp2_with fail
              go_roundw
              case rel => exact ⟨i + 1, hin, by go_num, HZ.out⟩
              case measure => simp [intOf]; omega
            · have q2 : decide ((0 : Int) < (i : Int)) = true := decide_eq_true (by omega)
              obtain ⟨k, hk⟩ : ∃ k, i = k + 1 := ⟨i - 1, by omega⟩
              have e1 := eq_num hk
              have kb : k < n.size + 1 := by omega
              have kb2 : k < n.size := by omega
              have kn : (k : Int) < (n.size : Int) := by omega
              have ck := HQ.out.was kb
              have hst : stepF t n r i = (r k && t.set (bt n k)) := by rw [hk]; exact step_n hm
              have HST := Lib.hid hst
              clear hst hk
              cases rk : r k with
              | false =>
                rw [rk] at ck
                have HZ : Hid (R2 w (wq.setCell ⟨wr.heap.size + 1, i, none⟩ (.bool false)) t n r wr.heap.size (wr.heap.size + 1) b (i + 1)) := Lib.hid (HQ.out.put (by rw [HST.out, rk]; rfl))
                go_wp2_with fail
                go_roundw
                case rel => exact ⟨i + 1, hin, by go_num, HZ.out⟩
                case measure => simp [intOf]; omega
              | true =>
                rw [rk] at ck
                obtain ⟨c, hc, hc2, hc3⟩ := bt_nat n k
                have cs := HQ.out.2.2.1.cell hc2
                have HC := Lib.hid hc
                have HZ : Hid (R2 w (wq.setCell ⟨wr.heap.size + 1, i, none⟩ (.bool (t.set (c : Int)))) t n r wr.heap.size (wr.heap.size + 1) b (i + 1)) := Lib.hid (HQ.out.put (by rw [HST.out, rk, HC.out]; rfl))
                go_wp2_with fail
                go_roundw
                case rel => exact ⟨i + 1, hin, by go_num, HZ.out⟩
                case measure => simp [intOf]; omega
        · have hi2 : i = n.size + 1 := by omega
          subst hi2
          have q1 : decide (((n.size + 1 : Nat) : Int) < (n.size : Int) + 1) = false := decide_eq_false (by omega)
          have q1b : ¬ ((n.size : Int) + 1 < (n.size : Int) + 1) := by omega
          have hrr := Lib.hid (reach_take (n := n) hlt Ht.out Hr.out)
          clear hQ
          go_wp2_with fail
          go_roundw
          case rel => exact ⟨j + 1, wr.heap.size + 1, _, rfl, by go_num, hlt, HQ.out.1, hrr.out, HQ.out.2.2.2.1, by omega⟩
          case measure => simp [intOf]; omega
    · obtain rfl : j = l.length := by omega
      have cc := HB.out.cell (i := n.size) (by omega)
      have hv := Hr.out n.size (Nat.le_refl _)
      rw [List.take_length] at hv
      have HV := Lib.hid hv
      have hbl := HB.out.lt
      clear hv
      go_wp2_with fail
      go_ret
      exact ⟨ret_bool (by rw [HV.out]), hE⟩
end Go.Proofs.YtnnoeckmkjhdbaaDoor
