/-
  The reference's Merge: its walk. No conditions but bounds.
-/
import Derived.RangeFuncBox
import Derived.Test.YtnnoeckmkjhdbaaMgS
import Derived.Test.YtnnoeckmkjhdbaaMgO
namespace Go.Proofs.Ytnnoeckmkjhdbaa
open Go.Shelf Go.RowKit Go.Sort Go.WideShapes

theorem prs_open {W : World} {v : Value} {L : List Pr} (h : IsPrs W v L) : ∃ oa cp, v = .slice oa L.length cp ∧ ∀ j (hj : j < L.length), ∃ b off, oa = some ⟨b, off, none⟩ ∧ W.cell? ⟨b, off + j * 2, none⟩ = some (.string L[j].1) ∧ W.cell? ⟨b, off + j * 2 + 1, none⟩ = some (.string L[j].2) := by
  rcases h with ⟨⟨a, c, rfl⟩, rfl⟩ | ⟨b, off, cp, rfl, hc⟩
  · exact ⟨a, c, rfl, fun j hj => absurd hj (Nat.not_lt_zero _)⟩
  · exact ⟨_, cp, rfl, fun j hj => ⟨b, off, rfl, hc j hj⟩⟩
theorem run_append_noneC {P : Program} {w : World} (base : Nat) (t ty e : TypeId) (i : TypeInfo) (size : Nat) (ht : P.underlying t = some (.slice e)) (hi : P.info? e = some i)
    (v : Value) (n : Nat) (xs : List Value) (c : Nat) (hown : w.ownsRow base e size v n xs) :
    (Builtin.append_ #[t, t] ty #[v, .slice none 0 c]).run P w = .ok v w := by
  rcases hown.2 with ⟨rfl, rfl⟩ | ⟨g, cap, cur, rfl, _, _, hnc, _⟩
  · simp [Builtin.append_, run_underlying ht, sizeOf, typeInfo, hi, Builtin.lenOf, Builtin.firstCells]
  · simp [Builtin.append_, run_underlying ht, sizeOf, typeInfo, hi, Builtin.lenOf, Builtin.firstCells, hnc, storeCells]
theorem wpList_append_noneC {P : Program} {w : World} {ops : Array Oper} {rest : List Oper} {o : Oper} {a : Act} {Q : Exit → Act → World → Prop} (hgd : o.guard = none) (s x : Operand) (t : TypeId)
    (ho : o.op = .call { callee := .builtin .append, args := #[s, x], argTypes := #[t, t] })
    (base : Nat) (e : TypeId) (i : TypeInfo) (size : Nat) (ht : P.underlying t = some (.slice e)) (hi : P.info? e = some i)
    (v : Value) (n : Nat) (xs : List Value) (hs : a.eval s = v) (hown : w.ownsRow base e size v n xs) (c : Nat) (hx : a.eval x = .slice none 0 c)
    (h : wpList P ops Q rest (a.put o.dst v) w) : wpList P ops Q (o :: rest) a w := by
  refine wpList_plain hgd fun K hK => ?_
  have hrun := run_append_noneC (P := P) (w := w) base t o.type e i size ht hi v n xs c hown
  unfold Oper.wp
  simp [execOp, ho, resolve, invoke, builtin, hs, hx, hrun, Result.andThen]
  exact hK _ _ h
theorem prs_news {W : World} {L : List Pr} {b off : Nat} (h : ∀ j (hj : j < L.length), W.cell? ⟨b, off + j * 2, none⟩ = some (.string L[j].1) ∧ W.cell? ⟨b, off + j * 2 + 1, none⟩ = some (.string L[j].2)) : ∀ i v, (cellsB L)[i]? = some v → W.cell? ((⟨b, off, none⟩ : Addr).add i) = some v := by
  intro i v hv
  rw [addp_plain]
  have hi : i < L.length * 2 := by
    rw [← cellsB_len]
    exact (List.getElem?_eq_some_iff.1 hv).1
  have hj : i / 2 < L.length := by omega
  obtain ⟨c0, c1⟩ := cellsB_at L (i / 2) hj
  obtain ⟨h0, h1⟩ := h (i / 2) hj
  rcases (show i % 2 = 0 ∨ i % 2 = 1 by omega) with h2 | h2
  · have e : i = i / 2 * 2 := by omega
    rw [show (cellsB L)[i]? = (cellsB L)[i / 2 * 2]? by rw [← e], c0] at hv
    rw [← hv, ← h0]
    congr 2
    omega
  · have e : i = i / 2 * 2 + 1 := by omega
    rw [show (cellsB L)[i]? = (cellsB L)[i / 2 * 2 + 1]? by rw [← e], c1] at hv
    rw [← hv, ← h1]
    congr 2
    omega
theorem cellsB_one (L : List Pr) : ∀ v ∈ cellsB L, v.oneCell' = true := by
  induction L with
  | nil => intro v hv; cases hv
  | cons p L ih =>
    obtain ⟨a, b⟩ := p
    intro v hv
    rcases List.mem_cons.1 hv with rfl | hv
    · rfl
    · rcases List.mem_cons.1 hv with rfl | hv
      · rfl
      · exact ih v hv
theorem boxedG {W W' : World} {B : Nat} {t : TypeId} {v : Value} (h : Boxed W B t v) (hE : Ext W W') : Boxed W' B t v := (hE.block B h.lt).trans h
theorem cell_new2 (w : World) (a b : Value) (t : TypeId) : (w.alloc (.cells #[a, b] t)).cell? ⟨w.heap.size, 0, none⟩ = some a ∧ (w.alloc (.cells #[a, b] t)).cell? ⟨w.heap.size, 1, none⟩ = some b := by
  have h := (MapKept.heap_alloc w (.cells #[a, b] t)).1
  constructor
  · simp only [World.cell?, h]
    rfl
  · simp only [World.cell?, h]
    rfl
theorem news_pair (w : World) (a b : ByteArray) (t : TypeId) : ∀ i v, ([.string a, .string b] : List Value)[i]? = some v → (w.alloc (.cells #[.string a, .string b] t)).cell? ((⟨w.heap.size, 0, none⟩ : Addr).add i) = some v :=
  prs_news (L := [(a, b)]) (off := 0) (fun j hj => by
    have e : j = 0 := by simpa using hj
    subst e
    exact cell_new2 w _ _ t)
theorem take_flat (Ls : List (List Pr)) {k : Nat} (hk : k < Ls.length) : (Ls.take (k + 1)).flatten = (Ls.take k).flatten ++ Ls[k] := by
  rw [List.take_add_one, List.getElem?_eq_getElem hk, List.flatten_append]
  simp
theorem take_flat_le (Ls : List (List Pr)) (k : Nat) : (Ls.take k).flatten.length ≤ Ls.flatten.length := by
  conv => rhs; rw [← List.take_append_drop k Ls]
  rw [List.flatten_append, List.length_append]
  omega

set_option maxHeartbeats 8000000 in
set_option maxRecDepth 100000 in
theorem refMerge_any (w : World) (g n cap : Nat) (V : Nat → Value) (Ls : List (List Pr)) (hn : Ls.length = n) (hn9 : n ≤ 1000) (all : List Pr) (hall : all = Ls.flatten) (hbig : all.length ≤ 1000000)
    (hc : ∀ k (h : k < Ls.length), w.cell? ⟨g, k, none⟩ = some (V k) ∧ IsPrs w (V k) Ls[k]) :
    Calls Try.prog 7 #[.slice (some ⟨g, 0, none⟩) n cap] w fun e w' => ∃ v, e = .returned v ∧ IsPrs w' v (mergeV all) ∧ Merged all (mergeV all) ∧ Ext w w' := by
  obtain ⟨i0, hi, hz0, hz1, hz2⟩ := info_parts infoPair
  have HC := Lib.hid hc
  have HN := Lib.hid hn
  have HB := Lib.hid hbig
  have HA := Lib.hid hall
  clear hc hn hbig hall
  go_enter Try.func7, Try.ntmps7
  go_wp2_with fail
  go_loopw [3, 14] (fun v i wr => ∃ k : Nat, k ≤ n ∧ i = .int .i64 (k : Int) ∧ wr.ownsRow w.heap.size 28 2 v (Ls.take k).flatten.length (cellsB (Ls.take k).flatten) ∧ Ext w wr) (fun _ i _ => (n - intOf i).toNat)
  case atStart => exact ⟨0, Nat.zero_le _, rfl, World.ownsRow_nil _ _ _ _, Ext.refl _⟩
  case round =>
    obtain ⟨k, hk, rfl, hO, hE⟩ := hrel
    by_cases hlt : k < n
    · have hkl : k < Ls.length := by rw [HN.out]; exact hlt
      obtain ⟨h1, h2⟩ := HC.out k hkl
      obtain ⟨oa, cp, hV, hcl⟩ := prs_open h2
      rw [hV] at h1
      have g1 := hE.cell h1
      have HO := Lib.hid hO
      have hsum := Lib.hid (take_flat Ls hkl)
      have hle1 := take_flat_le Ls (k + 1)
      have hbb := HB.out
      rw [HA.out] at hbb
      have hlen : (Ls.take (k + 1)).flatten.length = (Ls.take k).flatten.length + Ls[k].length := by rw [hsum.out, List.length_append]
      have hm1 : (Ls.take k).flatten.length + Ls[k].length ≤ maxLen := by unfold maxLen; omega
      have hm2 : ((Ls.take k).flatten.length + Ls[k].length) * 32 ≤ 140737488355328 := by omega
      have hnews : Hid (∀ a, oa = some a → ∀ i v, (cellsB Ls[k])[i]? = some v → wr.cell? (a.add i) = some v) := Lib.hid (by
        intro a ha
        by_cases h0 : Ls[k].length = 0
        · intro i v hv
          rw [List.length_eq_zero_iff.1 h0] at hv
          cases hv
        · obtain ⟨b, off, hb, _⟩ := hcl 0 (by omega)
          rw [hb] at ha
          injection ha with ha
          rw [← ha]
          exact prs_news (fun j hj => by
            obtain ⟨b', off', hb', c0, c1⟩ := hcl j hj
            rw [hb] at hb'
            injection hb' with hb'
            injection hb' with e1 e2
            subst e1 e2
            exact ⟨hE.cell c0, hE.cell c1⟩))
      have hnone : Hid (oa = none → Ls[k].length = 0) := Lib.hid (fun h => by
        by_cases h0 : Ls[k].length = 0
        · exact h0
        · obtain ⟨b, off, hb, _⟩ := hcl 0 (by omega)
          rw [hb] at h
          cases h)
      obtain ⟨L, hL⟩ : ∃ L, L = Ls[k] := ⟨_, rfl⟩
      obtain ⟨acc, hacc⟩ : ∃ acc, acc = (Ls.take k).flatten := ⟨_, rfl⟩
      rw [← hL] at g1 hlen hm1 hm2 hnews hnone hsum
      rw [← hacc] at HO hlen hm1 hm2 hsum
      have HL := Lib.hid hL
      clear h1 h2 hcl hO hV hle1 hbb hL hacc
      have hwr := hE.size
      rcases oa with _ | a
      · have hl0 := hnone.out rfl
        have hl1 := List.length_eq_zero_iff.1 hl0
        rw [hl0] at g1
        have HL1 := Lib.hid hl1
        clear hl0 hl1 hnews hnone
        obtain ⟨ib, hib⟩ : ∃ i, Try.prog.info? 28 = some i := ⟨_, hi⟩
        go_wp2_with (at_builtin; refine wpList_append_noneC rfl _ _ 22 rfl w.heap.size 28 ib 2 Try.underlying22 hib _ _ _ rfl HO.out cp rfl ?_)
        go_roundw
        case rel => exact ⟨k + 1, hlt, by go_num, by rw [hsum.out, HL1.out, List.append_nil]; exact HO.out, hE⟩
        case measure => simp [intOf]; omega
      · go_wp2_with (at_builtin; refine wpList_append_own _ rfl _ _ 22 rfl w.heap.size 28 i0 (.agg #[.string ByteArray.empty, .string ByteArray.empty]) 2 32 Try.underlying22 hi hz0 hz1 hz2 rfl (by decide) _ _ _ rfl HO.out a L.length cp (cellsB L) rfl (cellsB_len L) (hnews.out a rfl) (cellsB_one L) hm1 hm2 hwr ?_; intro v' w8 hown8 hgrow _)
        have hE8 : Ext w w8 := hE.ofGrown hgrow (fun i hi => (World.ownsRow.lt HO.out i hi).1)
        rw [← cellsB_append] at hown8
        go_wp2_with fail
        go_roundw
        case rel => exact ⟨k + 1, hlt, by go_num, by rw [hsum.out, List.length_append]; exact hown8, hE8⟩
        case measure => simp [intOf]; omega
    · have hkn : k = n := by omega
      have hO2 : wr.ownsRow w.heap.size 28 2 u3 all.length (cellsB all) := by
        have e : (Ls.take k).flatten = all := by rw [HA.out, List.take_of_length_le (by rw [HN.out]; omega)]
        rw [e] at hO
        exact hO
      have hbb := HB.out
      obtain ⟨oa, ca, rfl⟩ := ownP_open hO2
      have hca : all.length ≤ ca := by
        obtain ⟨_, ⟨hv, hn0⟩ | ⟨gg, cap', cur, hv, hb, hh, hn1, hm, hs, ht⟩⟩ := hO2
        · simp only [Value.slice.injEq] at hv
          omega
        · simp only [Value.slice.injEq] at hv
          omega
      obtain ⟨_, _, hve, hcl⟩ := prs_open (IsPrs.ofOwns hO2)
      simp only [Value.slice.injEq] at hve
      obtain ⟨rfl, _, rfl⟩ := hve
      have HCL := Lib.hid hcl
      clear hO2 hcl hkn hk hn9
      obtain ⟨w1, hw1⟩ : ∃ W, W = wr := ⟨_, rfl⟩
      rw [← hw1] at HCL hE ⊢
      clear hw1
      go_wp2_with fail
      have hx0 : Ext w1 (w1.alloc (.cells #[.slice none 0 0] 22)) := (Ext.refl _).alloc _
      go_loopw [24] (fun i wr => ∃ j : Nat, j ≤ all.length ∧ i = .int .i64 (j : Int) ∧ (∃ v, Boxed wr w1.heap.size 22 v ∧ wr.ownsRow w1.heap.size 28 2 v (outV all j).length (cellsB (outV all j))) ∧ Ext w1 wr) (fun i _ => (all.length - intOf i).toNat)
      case atStart => exact ⟨0, Nat.zero_le _, rfl, ⟨_, Boxed.new w1 _ _, World.ownsRow_nil _ _ _ _⟩, hx0⟩
      case round =>
        obtain ⟨j, hj, rfl, ⟨v, hbx, hrow⟩, hE1⟩ := hrel
        by_cases hjl : j < all.length
        · obtain ⟨p, hp⟩ : ∃ p, p = all[j] := ⟨_, rfl⟩
          have hpj : all[j]? = some p := by rw [hp]; exact List.getElem?_eq_getElem hjl
          obtain ⟨bb, off, rfl, c0, c1⟩ := HCL.out j hjl
          rw [← hp] at c0 c1
          have HP := Lib.hid hpj
          clear hp hpj
          obtain ⟨pk, pv⟩ := p
          have d0 := hE1.cell c0
          have d1 := hE1.cell c1
          have hb1 : bb < w1.heap.size := World.block_lt_of_cell? w1 _ c0
          have HB1 := Lib.hid hbx
          have HR1 := Lib.hid hrow
          clear hbx hrow c0 c1
          have hjb : j + 1 ≤ all.length := hjl
          have hjc : j + 1 ≤ ca := by omega
          rename World => wq
          go_upto_region 12 with fail
          obtain ⟨wa, hwa⟩ : ∃ W, W = wq.alloc (.cells #[.string pk, .string pv] 28) := ⟨_, rfl⟩
          have hEq : Ext wq wa := by rw [hwa]; exact (Ext.refl _).alloc _
          have hEa := hE1.trans hEq
          have hPa : wa.cell? ⟨wq.heap.size, 0, none⟩ = some (.string pk) ∧ wa.cell? ⟨wq.heap.size, 1, none⟩ = some (.string pv) := by rw [hwa]; exact cell_new2 wq _ _ _
          rw [← hwa]
          have HBa := Lib.hid (boxedG (t := 22) (v := v) HB1.out hEq)
          have HRa := Lib.hid (ownP_ext HR1.out hEq)
          have HPa := Lib.hid hPa
          have HEA := Lib.hid hEa
          have hla : wq.heap.size < wa.heap.size := World.block_lt_of_cell? wa _ hPa.1
          clear hwa hEq hPa HB1 HR1 d0 d1
          go_cut [32, 33, 34] (fun s m i wx => (∃ oo cc, s = .slice (some ⟨bb, oo, none⟩) (all.length - (j + 1)) cc ∧ (0 < all.length - (j + 1) → oo = off + (j + 1) * 2)) ∧ m = .int .i64 ((all.length - (j + 1) : Nat) : Int) ∧ i = .int .i64 0 ∧ wx = wa)
          case first =>
            rcases Nat.eq_or_lt_of_le hjc with hcc | hcc
            · subst hcc
              go_wp2_with fail
              go_meet
              have m0 : all.length - (j + 1) = 0 := by omega
              rw [m0]
              exact ⟨⟨_, _, rfl, fun h => by omega⟩, rfl, rfl, rfl⟩
            · have hcc2 : 0 < ca - (j + 1) := by omega
              go_wp2_with fail
              go_meet
              exact ⟨⟨_, _, rfl, fun h => rfl⟩, rfl, rfl, rfl⟩
          obtain ⟨⟨oo, cc, rfl, hoo⟩, rfl, rfl, hw9⟩ := hcut
          rw [hw9]
          clear hw9
          go_wp2_with fail
          go_loopw [9, 34] (fun b i wr => ∃ q : Nat, q ≤ all.length - (j + 1) ∧ i = .int .i64 (q : Int) ∧ b = .bool (lastAt ((all.drop (j + 1)).take q) (pk, pv)) ∧ Ext wa wr) (fun _ i _ => (all.length - (j + 1) - intOf i).toNat)
          case atStart => exact ⟨0, Nat.zero_le _, rfl, rfl, Ext.refl _⟩
          case round =>
            obtain ⟨q, hqm, rfl, rfl, hE3⟩ := hrel
            have HE3 := Lib.hid hE3
            have hp0 := hE3.cell HPa.out.1
            have hp1 := hE3.cell HPa.out.2
            have hl3 : wq.heap.size < wr.heap.size := World.block_lt_of_cell? wr _ hp0
            by_cases hqn : q < all.length - (j + 1)
            · have hqa : j + 1 + q < all.length := by omega
              obtain ⟨b2, off2, heq, c0, c1⟩ := HCL.out (j + 1 + q) hqa
              simp only [Option.some.injEq, Addr.mk.injEq, and_true] at heq
              obtain ⟨rfl, rfl⟩ := heq
              obtain ⟨r, hr⟩ : ∃ r, r = all[j + 1 + q] := ⟨_, rfl⟩
              have hrq : (all.drop (j + 1))[q]? = some r := by rw [List.getElem?_drop, hr]; exact List.getElem?_eq_getElem hqa
              rw [← hr] at c0 c1
              have hst := Lib.hid (lastAt_take (p := (pk, pv)) hrq)
              clear hr hrq
              obtain ⟨rk, rv⟩ := r
              have e0 := hE3.cell (hEa.cell c0)
              have e1 := hE3.cell (hEa.cell c1)
              rw [show off + (j + 1 + q) * 2 = oo + q * 2 by have := hoo (by omega); omega] at e0 e1
              generalize lastAt ((all.drop (j + 1)).take q) (pk, pv) = b1 at *
              clear c0 c1
              have hs3 : Ext wr (wr.alloc (.cells #[.string rk, .string rv] 28)) := (Ext.refl _).alloc _
              have hp2 := hs3.cell hp0
              cases b1
              all_goals
                go_wp2_with fail
                go_roundw
                case rel => exact ⟨q + 1, hqn, by go_num, by rw [hst.out]; simp, HE3.out.trans hs3⟩
                case measure => simp [intOf]; omega
            · have hkeep : Hid (keepP all j (pk, pv) = (lastAt ((all.drop (j + 1)).take q) (pk, pv) && !pv.toList.isEmpty)) := Lib.hid (by
                unfold keepP
                rw [List.take_of_length_le (by rw [List.length_drop]; omega)])
              generalize lastAt ((all.drop (j + 1)).take q) (pk, pv) = b1 at *
              have hbw := boxedG (t := 22) (v := v) HBa.out HE3.out
              have hrw := ownP_ext HRa.out HE3.out
              have HBW := Lib.hid hbw
              have HRW := Lib.hid hrw
              have hE4 := Lib.hid (HEA.out.trans HE3.out)
              have hbc := Boxed.cell hbw
              have hbl := Boxed.lt hbw
              have hws : w1.heap.size ≤ wr.heap.size := hE4.out.size
              clear hbw hrw HBa HRa hoo
              cases b1
              · have hk0 : Hid (outV all (j + 1) = outV all j) := Lib.hid (outV_miss HP.out (by rw [hkeep.out]; rfl))
                go_wp2_with fail
                go_roundw
                case rel => exact ⟨j + 1, hjl, by go_num, ⟨v, by rw [hk0.out]; exact ⟨HBW.out, HRW.out⟩⟩, hE4.out⟩
                case measure => simp [intOf]; omega
              · cases hpv : pv.toList.isEmpty
                · have hk0 : Hid (outV all (j + 1) = outV all j ++ [(pk, pv)]) := Lib.hid (outV_hit HP.out (by rw [hkeep.out, hpv]; rfl))
                  have hol := outV_len all j
                  have hm1 : (outV all j).length + 1 ≤ maxLen := by unfold maxLen; omega
                  have hm2 : ((outV all j).length + 1) * 32 ≤ 140737488355328 := by omega
                  obtain ⟨acc, hacc⟩ : ∃ acc, acc = outV all j := ⟨_, rfl⟩
                  rw [← hacc] at HRW hm1 hm2 hk0
                  have HAC := Lib.hid hacc
                  clear hacc hol
                  go_wp2_with (at_builtin; refine wpList_append_own _ rfl _ _ 22 rfl w1.heap.size 28 i0 (.agg #[.string ByteArray.empty, .string ByteArray.empty]) 2 32 Try.underlying22 hi hz0 hz1 hz2 rfl (by decide) _ _ _ rfl (HRW.out.alloc _) ⟨wr.heap.size, 0, none⟩ 1 1 [.string pk, .string pv] rfl rfl (news_pair _ _ _ _) (cellsB_one [(pk, pv)]) hm1 hm2 (by simp; omega) ?_; intro v' w8 hown8 hgrow _; obtain ⟨g', cap', rfl⟩ := ownsRow_succ hown8; obtain ⟨hv1, hv2, hr2, hk2, hb2⟩ := Boxed.appended (t := 22) HBW.out (by decide) HRW.out hws (Nat.le_refl _) hown8 hgrow; have hc1 := Boxed.cell hv1; have hf1 := Boxed.frozen hv1)
                  go_roundw
                  case rel => exact ⟨j + 1, hjl, by go_num, ⟨_, hv2, by rw [hk0.out, cellsB_append, List.length_append]; exact hr2⟩, Go.RowKit.Below.trans hE4.out hb2⟩
                  case measure => simp [intOf]; omega
                · have hk0 : Hid (outV all (j + 1) = outV all j) := Lib.hid (outV_miss HP.out (by rw [hkeep.out, hpv]; rfl))
                  go_wp2_with fail
                  go_roundw
                  case rel => exact ⟨j + 1, hjl, by go_num, ⟨v, by rw [hk0.out]; exact ⟨HBW.out, HRW.out⟩⟩, hE4.out⟩
                  case measure => simp [intOf]; omega
        · have hja : j = all.length := by omega
          have hrow2 : wr.ownsRow w1.heap.size 28 2 v (outV all all.length).length (cellsB (outV all all.length)) := by rw [← hja]; exact hrow
          have hol := outV_len all all.length
          have hspec : (∀ p : Pr, p ∈ outV all all.length ↔ lastB all p.1 = some p.2 ∧ p.2.size ≠ 0) := out_mem all
          have hnd := out_nodup all all.length
          obtain ⟨out, hout⟩ : ∃ out, out = outV all all.length := ⟨_, rfl⟩
          rw [← hout] at hrow2 hol hspec hnd
          have HSP := Lib.hid hspec
          have HND := Lib.hid hnd
          have HBX := Lib.hid hbx
          have HRW := Lib.hid hrow2
          have hbc := Boxed.cell hbx
          have hbl := Boxed.lt hbx
          have hE4 := Lib.hid (hE.trans hE1)
          have hw1s := hE1.size
          clear hrow hout hspec hnd hja hx0
          by_cases hm : out.length ≤ 1
          · obtain ⟨oa, c9, rfl⟩ := ownP_open hrow2
            have CS := Lib.hid (fun W => sortTiny_any W oa out.length c9 hm w1.heap.size)
            have HM := Lib.hid hm
            clear hrow2 hm hol
            go_wp2_with ((with_reducible refine (CS.out _).mono ?_); rintro x w5 ⟨rfl, hg5⟩; have hb5 := Boxed.kept HBX.out hg5 (by simp); have hc5 := Boxed.cell hb5)
            go_ret
            have hE5 : Ext w w5 := hE4.out.ofGrown hg5 (fun i hi => by cases hi)
            have hM := merged_tiny HM.out HSP.out
            exact ⟨_, rfl, by rw [hM.eq]; exact IsPrs.ofOwns (HRW.out.kept hg5 (by cases (Value.slice oa out.length c9).ownBlock <;> simp)), by rw [hM.eq]; exact hM, hE5⟩
          · obtain ⟨_, ⟨_, hn0⟩ | ⟨g2, c9, cur, hv, hb, hh, _⟩⟩ := id hrow2
            · omega
            · subst hv
              have hg2 : g2 < wr.heap.size := (Array.getElem?_eq_some_iff.1 hh).1
              have hne : w1.heap.size ≠ g2 := fun e => by
                have h1 : wr.heap[w1.heap.size]? = _ := HBX.out
                rw [e, hh] at h1
                injection h1 with h1
                injection h1 with _ h1
                revert h1
                decide
              have hz : out.toArray.size = out.length := by simp
              have CS := Lib.hid (sortSl_any wr g2 c9 w1.heap.size out.toArray (by omega) (by omega) (holds_own hrow2) hg2 (by rw [hz]; exact hbc) hbl hne)
              rw [hz] at CS
              have HG2 := Lib.hid hb
              have HNE := Lib.hid hne
              clear hrow2 hm hol hb hh hne hz hg2
              go_wp2_with ((with_reducible refine CS.out.mono ?_); rintro x w5 ⟨rfl, d', hp5, hs5, hg5, hH5⟩; have hb5 := Boxed.kept HBX.out hg5 (by have := HNE.out; simpa using this); have hc5 := Boxed.cell hb5)
              go_ret
              have hE5 : Ext w w5 := hE4.out.ofGrown hg5 (fun i hi => by
                injection hi with hi
                have h1 := HG2.out
                have h2 := hE.size
                omega)
              have hM : Merged all d'.toList := merged_of (d := out.toArray) (by simpa using HND.out) (by simpa using HSP.out) (by simpa using hp5) (by simpa using hs5)
              have hz5 : d'.size = out.length := by simpa using hp5.1
              have hI := prs_sorted (cap := c9) hH5
              rw [hz5] at hI
              exact ⟨_, rfl, by rw [hM.eq]; exact hI, by rw [hM.eq]; exact hM, hE5⟩
end Go.Proofs.Ytnnoeckmkjhdbaa
