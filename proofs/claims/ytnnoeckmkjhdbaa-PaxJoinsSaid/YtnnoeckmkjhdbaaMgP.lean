/-
  pax.Merge: its walk. No conditions but bounds.
-/
import Derived.Test.YtnnoeckmkjhdbaaMgW
import Derived.Test.YtnnoeckmkjhdbaaMgC
import Derived.Test.YtnnoeckmkjhdbaaMgR
namespace Go.Proofs.Ytnnoeckmkjhdbaa
open Go.Shelf Go.RowKit Go.Sort Go.WideShapes Go.Maps
attribute [local go_sem] Oper.semAt_some

def keepM (ps : List PL) : List Pr := (ps.map fun q => (toB q.1, toB q.2)).filter fun p => !p.2.toList.isEmpty
theorem keepM_hit (pre : List PL) (x : PL) (h : (toB x.2).toList.isEmpty = false) : keepM (pre ++ [x]) = keepM pre ++ [(toB x.1, toB x.2)] := by
  unfold keepM
  rw [List.map_append, List.filter_append]
  simp [h]
theorem keepM_miss (pre : List PL) (x : PL) (h : (toB x.2).toList.isEmpty = true) : keepM (pre ++ [x]) = keepM pre := by
  unfold keepM
  rw [List.map_append, List.filter_append]
  simp [h]
theorem keepM_len (ps : List PL) : (keepM ps).length ≤ ps.length := by
  unfold keepM
  exact Nat.le_trans (List.length_filter_le _ _) (by simp)
theorem keepM_spec {all : List Pr} {D : DataW Unit} (hh : ∀ k : List UInt8, has D (.string k) = (lastB all (toB k)).isSome) (hv : ∀ (k : List UInt8) (v : ByteArray), lastB all (toB k) = some v → ValP D (k, v.data.toList))
    {ps : List PL} (h : AllP D ps) : (∀ p : Pr, p ∈ keepM ps ↔ lastB all p.1 = some p.2 ∧ p.2.size ≠ 0) ∧ ((keepM ps).map (·.1)).Nodup := by
  refine ⟨fun p => ?_, ?_⟩
  · unfold keepM
    rw [List.mem_filter, allP_mem (W := default) (b := 0) (c := 0) hh hv h, val_ne]
  · have h1 : ((ps.map fun q => (toB q.1, toB q.2)).map (·.1)).Nodup := by
      have e : (ps.map fun q : PL => (toB q.1, toB q.2)).map (·.1) = (ps.map (·.1)).map toB := by
        rw [List.map_map, List.map_map]
        rfl
      rw [e]
      exact List.pairwise_map.2 (h.1.imp fun {a b} hab e => hab (toB_inj e))
    exact h1.sublist (List.filter_sublist.map _)
theorem prs_kept2 {W W' : World} {v : Value} {L : List Pr} {row : Option Nat} (h : IsPrs W v L) (hg : W.grownBy W' row) (hr : ∀ r, row = some r → ∃ o : Obj, W.heap[r]? = some o ∧ o.isCells = false) : IsPrs W' v L :=
  h.imp id fun ⟨b, off, cap, hv, hc⟩ => ⟨b, off, cap, hv, fun k hk => ⟨cell_kept (hc k hk).1 hg hr, cell_kept (hc k hk).2 hg hr⟩⟩

set_option maxHeartbeats 8000000 in
set_option maxRecDepth 100000 in
theorem paxMerge_any (w : World) (g n cap : Nat) (V : Nat → Value) (Ls : List (List Pr)) (hn : Ls.length = n) (hn9 : n ≤ 1000) (all : List Pr) (hall : all = Ls.flatten) (hbig : all.length ≤ 1000000)
    (hsz : ∀ p ∈ all, p.1.size ≤ maxLen ∧ p.2.size ≤ maxLen)
    (hc : ∀ k (h : k < Ls.length), w.cell? ⟨g, k, none⟩ = some (V k) ∧ IsPrs w (V k) Ls[k]) :
    Calls Try.prog 6 #[.slice (some ⟨g, 0, none⟩) n cap] w fun e w' => ∃ v, e = .returned v ∧ IsPrs w' v (mergeV all) ∧ Merged all (mergeV all) ∧ Ext w w' := by
  obtain ⟨i0, hi, hz0, hz1, hz2⟩ := info_parts infoPair
  have HC := Lib.hid hc
  have HN := Lib.hid hn
  have HB := Lib.hid hbig
  have HA := Lib.hid hall
  have HS := Lib.hid hsz
  clear hc hn hbig hall hsz
  have hmm := @run_makeMap Try.prog
  refine (callsIn_wide (n := 4)).1 ?_
  refine callsIn_of_wp_marks Try.func6 rfl trivial ?_ rfl
  simp only [Try.ntmps6, List.size_toArray, List.length_cons, List.length_nil, Nat.reduceAdd, Nat.reduceSub, Array.replicate_succ, Array.replicate_zero, List.push_toArray, List.append_toArray, List.nil_append, List.cons_append]
  gi_wp2
  clear hmm
  gi_loopw [14] (fun i wr => ∃ k : Nat, k ≤ n ∧ i = .int .i64 (k : Int) ∧ MapS wr w.heap.size (Ls.take k).flatten ∧ Ext w wr) (fun i _ => (n - intOf i).toNat)
  case atStart => exact ⟨0, Nat.zero_le _, rfl, mapS_made w, (Ext.refl w).alloc _⟩
  case round =>
    obtain ⟨k, hk, rfl, hM, hE⟩ := hrel
    by_cases hlt : k < n
    · have hkl : k < Ls.length := by rw [HN.out]; exact hlt
      obtain ⟨h1, h2⟩ := HC.out k hkl
      obtain ⟨oa, cp, hV, hcl⟩ := prs_open h2
      rw [hV] at h1
      have g1 := hE.cell h1
      have hsum := Lib.hid (take_flat Ls hkl)
      have hbb := HB.out
      have hle1 := take_flat_le Ls (k + 1)
      rw [← HA.out] at hle1
      have hmem : ∀ p ∈ Ls[k], p.1.size ≤ maxLen ∧ p.2.size ≤ maxLen := fun p hp => HS.out p (by
        rw [HA.out]
        exact List.mem_flatten.2 ⟨_, List.getElem_mem hkl, hp⟩)
      rw [hsum.out, List.length_append] at hle1
      obtain ⟨L, hL⟩ : ∃ L, L = Ls[k] := ⟨_, rfl⟩
      obtain ⟨acc, hacc⟩ : ∃ acc, acc = (Ls.take k).flatten := ⟨_, rfl⟩
      rw [← hL] at g1 hsum hmem hcl hle1
      rw [← hacc] at hM hsum hle1
      have HMM := Lib.hid hM
      have HCL := Lib.hid hcl
      have HMEM := Lib.hid hmem
      have HE := Lib.hid hE
      have hbx : w.heap.size < wr.heap.size := hM.lt
      clear h1 h2 hcl hV hL hacc hmem hM
      rename World => wq
      gi_wp2
      gi_loopw [20] (fun i wr => ∃ q : Nat, q ≤ L.length ∧ i = .int .i64 (q : Int) ∧ MapS wr w.heap.size (acc ++ L.take q) ∧ Ext w wr) (fun i _ => (L.length - intOf i).toNat)
      case atStart => exact ⟨0, Nat.zero_le _, rfl, by simpa using HMM.out, HE.out⟩
      case round =>
        obtain ⟨q, hq, rfl, hM2, hE2⟩ := hrel
        by_cases hql : q < L.length
        · obtain ⟨p, hp⟩ : ∃ p, p = L[q] := ⟨_, rfl⟩
          have hpq : L.take (q + 1) = L.take q ++ [p] := by rw [List.take_add_one, List.getElem?_eq_getElem hql, hp]; rfl
          have hpm := HMEM.out L[q] (List.getElem_mem hql)
          obtain ⟨bb, off, rfl, c0, c1⟩ := HCL.out q hql
          rw [← hp] at c0 c1 hpm
          have hst := Lib.hid hpq
          have hlq : (acc ++ L.take q).length ≤ 1000000 := by
            rw [List.length_append, List.length_take]
            omega
          clear hp hpq
          obtain ⟨pk, pv⟩ := p
          have d0 := hE2.cell c0
          have d1 := hE2.cell c1
          obtain ⟨c, D, hown, hT, hcl, hh, hv⟩ := hM2
          have HOW := Lib.hid hown
          have HHV := Lib.hid (And.intro hT (And.intro hcl (And.intro hh hv)))
          have hcm : c < maxLen := by unfold maxLen; omega
          have hml := hown.lt
          have HE2 := Lib.hid hE2
          clear hown hT hcl hh hv c0 c1 hE2
          gi_wp2_with (gi_at_mapUpdate; refine wpListIn_mapUpdate_own _ rfl _ _ _ 30 rfl 9 9 (string_keyed Try.underlying9) Try.underlying30 _ w.heap.size c D rfl (HOW.out.alloc _) hcm _ _ _ rfl rfl (mkKey pk hpm.1) _ [] (mkElem pv hpm.2) ?_; intro w8 hown8 hgrow)
          go_roundw
          case rel => exact ⟨q + 1, hql, by go_num, by rw [hst.out, ← List.append_assoc]; exact mapS_put pk pv HHV.out.1 HHV.out.2.1 HHV.out.2.2.1 HHV.out.2.2.2 hown8, (HE2.out.alloc _).ofGrown hgrow (fun i hi => by injection hi with hi; omega)⟩
          case measure => simp [intOf]; omega
        · have hML : Hid (MapS wr w.heap.size (acc ++ L)) := Lib.hid (by
            have e : L.take q = L := List.take_of_length_le (by omega)
            rw [e] at hM2
            exact hM2)
          have HE2 := Lib.hid hE2
          clear hM2 hE2
          gi_wp2
          go_roundw
          case rel => exact ⟨k + 1, hlt, by go_num, by rw [hsum.out]; exact hML.out, HE2.out⟩
          case measure => simp [intOf]; omega
    · have hMA : MapS wr w.heap.size all := by
        have e : (Ls.take k).flatten = all := by rw [HA.out, List.take_of_length_le (by rw [HN.out]; omega)]
        rw [e] at hM
        exact hM
      have hbl := hMA.lt
      obtain ⟨c, D, hown, hT, hcl, hh, hv⟩ := hMA
      have HOW := Lib.hid hown
      have HH := Lib.hid hh
      have HV := Lib.hid hv
      have HE := Lib.hid hE
      have hsl := size_le hown
      have hbb := HB.out
      clear hM hown hT hh hv hE
      gi_wp2_with (refine ⟨trivial, ?_⟩; gi_at_call 8; refine ((callsIn_wide (n := 3)).2 (mapsAll_any _ _)).mono ?_; rintro e w' ⟨rfl, rfl⟩)
      have bO := (Boxed.new wr 22 (.slice none 0 0)).alloc (.cells #[.map (some w.heap.size)] 30)
      have bM := Boxed.new (wr.alloc (.cells #[.slice none 0 0] 22)) 30 (.map (some w.heap.size))
      rw [World.size_alloc] at bM
      have hE0 : Ext w ((wr.alloc (.cells #[.slice none 0 0] 22)).alloc (.cells #[.map (some w.heap.size)] 30)) := (HE.out.alloc _).alloc _
      have hs0 : ((wr.alloc (.cells #[.slice none 0 0] 22)).alloc (.cells #[.map (some w.heap.size)] 30)).heap.size = wr.heap.size + 2 := by simp
      have hown0 := (HOW.out.alloc (.cells #[.slice none 0 0] 22)).alloc (.cells #[.map (some w.heap.size)] 30)
      have hws := HE.out.size
      obtain ⟨W0, hW0⟩ : ∃ W0, W0 = (wr.alloc (.cells #[.slice none 0 0] 22)).alloc (.cells #[.map (some w.heap.size)] 30) := ⟨_, rfl⟩
      rw [← hW0] at bO bM hE0 hs0 hown0 ⊢
      clear hW0
      refine wpIn_rangeFunc_ownF rfl (by omega) (gf := 14) (lb := #[.pointer (some ⟨wr.heap.size + 1, 0, none⟩)]) rfl trivial (enters_of Try.func14 (by kernel_rfl) rfl)
        (all_stopsM Fence.wide 3 trivial rfl (by omega) (wr.heap.size + 1) w.heap.size c D W0 (by omega) bM.cell hown0) walksK_t walksK_b (Below.refl _ _) (fun _ => rfl)
        (fun pre W => (∃ v, Boxed W wr.heap.size 22 v ∧ W.ownsRow w.heap.size 28 2 v (keepM pre).length (cellsB (keepM pre)) ∧ True) ∧ Below w.heap.size w W)
        (fun _ _ _ => False)
        (OwnFrom.and (Own.from (holdsRow_own w.heap.size wr.heap.size 22 28 2 (fun pre => (keepM pre).length) (fun pre => cellsB (keepM pre)) (fun _ _ => True)) _) (ownFrom_below (Nat.le_refl _) (by omega)))
        (fun _ _ _ _ _ hs _ _ => hs)
        ⟨⟨_, bO, World.ownsRow_nil _ _ _ _, trivial⟩, hE0⟩
        ?a₁ ?assign ?body ?done ?stop
      case assign =>
        intro l x W K hK
        dsimp only [encsP]
        gi_wp2
        exact hK
      case body =>
        rintro l pre ⟨xk, xv⟩ W ⟨⟨v, hbx, hrow, _⟩, hB⟩ hlt
        have hbc := Boxed.cell hbx
        have hkl := keepM_len pre
        have hhit := Lib.hid (keepM_hit pre (xk, xv))
        have hmiss := Lib.hid (keepM_miss pre (xk, xv))
        have HBX := Lib.hid hbx
        have HRW := Lib.hid hrow
        have HBE := Lib.hid hB
        have hwW := hB.size
        have hm1 : (keepM pre).length + 1 ≤ maxLen := by unfold maxLen; omega
        have hm2 : ((keepM pre).length + 1) * 32 ≤ 140737488355328 := by omega
        dsimp only at hhit hmiss ⊢
        obtain ⟨kb, hkb⟩ : ∃ kb, kb = toB xk := ⟨_, rfl⟩
        obtain ⟨vb, hvb⟩ : ∃ vb, vb = toB xv := ⟨_, rfl⟩
        rw [← hkb, ← hvb] at hhit
        rw [← hvb] at hmiss
        rw [← hkb, ← hvb]
        obtain ⟨acc, hacc⟩ : ∃ acc, acc = keepM pre := ⟨_, rfl⟩
        rw [← hacc] at hm1 hm2 HRW hhit hmiss
        clear hkb hvb hbx hrow hB hkl hacc hlt
        cases hq : vb.toList.isEmpty with
        | false =>
          have hst := Lib.hid (hhit.out hq)
          gi_wp2_with (gi_at_builtin; refine wpListIn_append_own _ rfl _ _ 22 rfl w.heap.size 28 i0 (.agg #[.string ByteArray.empty, .string ByteArray.empty]) 2 32 Try.underlying22 hi hz0 hz1 hz2 rfl (by decide) _ _ _ rfl (HRW.out.alloc _) ⟨W.heap.size, 0, none⟩ 1 1 [.string kb, .string vb] rfl rfl (news_pair _ _ _ _) (cellsB_one [(kb, vb)]) hm1 hm2 (by simp; omega) ?_; intro v' w8 hown8 hgrow _; obtain ⟨g', cap', rfl⟩ := ownsRow_succ hown8; obtain ⟨hv1, hv2, hr2, hk2, hb2⟩ := Boxed.appended (t := 22) HBX.out (by decide) HRW.out hwW hws hown8 hgrow; have hc1 := Boxed.cell hv1; have hf1 := Boxed.frozen hv1)
          exact ⟨hk2, hk2.walks, ⟨_, hv2, by rw [hst.out, cellsB_append, List.length_append]; exact hr2, trivial⟩, Go.RowKit.Below.trans HBE.out hb2⟩
        | true =>
          have hst := Lib.hid (hmiss.out hq)
          gi_wp2
          exact ⟨KeepsOthers.refl _, (KeepsOthers.refl _).walks, ⟨v, HBX.out, by rw [hst.out]; exact HRW.out, trivial⟩, HBE.out⟩
      case done =>
        rintro d0 ps W hD hps ⟨⟨v, hbx, hrow, _⟩, hB⟩ hK
        obtain ⟨hmem, hnd⟩ := keepM_spec (all := all) HH.out HV.out hps
        have hbc := Boxed.cell hbx
        have hbW := Boxed.lt hbx
        obtain ⟨out, hout⟩ : ∃ out, out = keepM ps := ⟨_, rfl⟩
        rw [← hout] at hrow hmem hnd
        have HBX := Lib.hid hbx
        have HRW := Lib.hid hrow
        have HMEM := Lib.hid hmem
        have HND := Lib.hid hnd
        have HBE := Lib.hid hB
        clear hout hmem hnd hps
        obtain ⟨_, ⟨hv0, hn0⟩ | ⟨g2, c9, cur, hv0, hb2, hh2, _⟩⟩ := id hrow
        · subst hv0
          have hl0 : out = [] := List.length_eq_zero_iff.1 hn0
          have HL0 := Lib.hid hl0
          have hKd := Lib.hid hK
          have hM : Merged all out := merged_tiny (by rw [hn0]; omega) HMEM.out
          clear hrow hbx hB hl0 hn0
          gi_wp2_with (refine ⟨trivial, ?_⟩; gi_at_call 9; refine ((callsIn_wide (n := 3)).2 (sortNone_any _ _ _)).mono ?_; rintro e w' ⟨rfl, rfl⟩)
          refine ⟨by simp, .inl ⟨_, _, rfl, run_takeDeferred hKd.out, ?_⟩⟩
          refine ⟨_, results_tmp rfl _ _ _, _, rfl, ?_, by rw [hM.eq]; exact hM, Go.RowKit.Below.trans HBE.out (belowK_b (w := w) (Nat.le_refl _) _ d0 _ _ (by omega) hKd.out rfl rfl)⟩
          rw [hM.eq, HL0.out]
          exact .inl ⟨⟨_, _, rfl⟩, rfl⟩
        · subst hv0
          have hg2 : g2 < W.heap.size := (Array.getElem?_eq_some_iff.1 hh2).1
          have hne : wr.heap.size ≠ g2 := fun e => by
            have h1 : W.heap[wr.heap.size]? = _ := HBX.out
            rw [e, hh2] at h1
            injection h1 with h1
            injection h1 with _ h1
            revert h1
            decide
          have hdne : d0 ≠ g2 := fun e => by
            rw [e, hh2] at hK
            injection hK with hK
            cases hK
          have hdl : d0 < W.heap.size := (Array.getElem?_eq_some_iff.1 hK).1
          have hz : out.toArray.size = out.length := by simp
          have hol : out.length ≤ all.length := by
            have hn : out.Nodup := (List.pairwise_map.1 HND.out).imp fun {a b} h e => h (by rw [e])
            exact hn.length_le_of_subset fun p hp => lastB_some ((HMEM.out p).1 hp).1
          have CS := Lib.hid (sortFn_any W g2 c9 out.toArray (by rw [hz]; omega) (holds_own hrow) hg2)
          rw [hz] at CS
          have HK := Lib.hid (And.intro hK (And.intro hdne hdl))
          have HNE := Lib.hid hne
          have HG2 := Lib.hid hb2
          clear hrow hbx hB hh2 hg2 hne hdne hdl hz hol hK hb2
          gi_wp2_with (refine ⟨trivial, ?_⟩; gi_at_call 9; refine ((callsIn_wide (n := 3)).2 CS.out).mono ?_; rintro e w5 ⟨rfl, d', hp5, hs5, hg5, hH5⟩; have hb5 := Boxed.kept HBX.out hg5 (by have := HNE.out; simpa using this); have hc5 := Boxed.cell hb5)
          have hK5 : w5.heap[d0]? = some (.deferred (some [])) := (hg5.block d0 HK.out.2.2 (fun e => by injection e with e; exact HK.out.2.1 e)).trans HK.out.1
          have hE5 : Ext w w5 := Ext.ofGrown HBE.out hg5 (fun i hi => by
            injection hi with hi
            have h1 := HG2.out
            omega)
          have hM : Merged all d'.toList := merged_of (d := out.toArray) (by simpa using HND.out) (by simpa using HMEM.out) (by simpa using hp5) (by simpa using hs5)
          have hz5 : d'.size = out.length := by simpa using hp5.1
          have hI := prs_sorted (cap := c9) hH5
          rw [hz5] at hI
          refine ⟨by simp, .inl ⟨_, _, rfl, run_takeDeferred hK5, ?_⟩⟩
          refine ⟨_, results_tmp rfl _ _ _, _, rfl, by rw [hM.eq]; exact prs_kept2 hI (grownBy_putObj' _ d0 (.deferred none)) (fun r e => by cases e; exact ⟨_, hK5, rfl⟩), by rw [hM.eq]; exact hM, Go.RowKit.Below.trans hE5 (belowK_b (w := w) (Nat.le_refl _) _ d0 _ _ (by omega) hK5 rfl rfl)⟩
      case stop =>
        rintro d0 cc pre W _ _ h _
        exact h.elim
end Go.Proofs.Ytnnoeckmkjhdbaa
