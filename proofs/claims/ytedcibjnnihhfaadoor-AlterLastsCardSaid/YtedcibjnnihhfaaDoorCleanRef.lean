/-
  The reference's Clean.
-/
import Derived.Test.YtedcibjnnihhfaaDoorClean
namespace Go.Proofs.YtedcibjnnihhfaaDoor
open Go.RowKit Go.WideShapes

/-- append onto a row of the call's own, as one step of a region that draws. -/
theorem step_append_own {P : Program} {ops : Array Oper} {o : Oper} {a : Act} {w : World} {K : Act → World → Prop} {Q : Exit → Act → World → Prop} {E : Prop}
    (hg : o.guard = none) (s x : Operand) (t : TypeId) (ho : o.op = .call { callee := .builtin .append, args := #[s, x], argTypes := #[t, t] })
    (base : Nat) (e : TypeId) (i : TypeInfo) (z : Value) (size bytes : Nat) (ht : P.underlying t = some (.slice e)) (hi : P.info? e = some i) (hz : i.zero = some z)
    (hsize : i.size = size) (hby : i.bytes = bytes) (hzs : z.cells.size = size) (hsz : 0 < size)
    (v : Value) (n : Nat) (xs : List Value) (hs : a.eval s = v) (hown : w.ownsRow base e size v n xs)
    (ad : Addr) (m c : Nat) (news : List Value) (hx : a.eval x = .slice (some ad) m c) (hl : news.length = m * size) (hnews : ∀ j u, news[j]? = some u → w.cell? (ad.add j) = some u) (h1 : ∀ u ∈ news, u.oneCell' = true)
    (h63 : n + m ≤ maxLen) (hbytes : (n + m) * bytes ≤ 140737488355328) (hbase : base ≤ w.heap.size)
    (h : ∀ v' w', w'.ownsRow base e size v' (n + m) (xs ++ news) → w.grownBy w' v.ownBlock → (v' = .slice none 0 0 ↔ v = .slice none 0 0 ∧ m = 0) → K (a.put o.dst v') w') :
    if Region.wanted o (yielded ops a.tmps) = true then Oper.wp P o a w K Q else E := by
  have hw : Region.wanted o (yielded ops a.tmps) = true := by simp [Region.wanted, hg]
  rw [if_pos hw]
  exact wp_append_own w s x t ho base e i z size bytes ht hi hz hsize hby hzs hsz v n xs hs hown ad m c news hx hl hnews h1 h63 hbytes hbase h

theorem addr_add (b off j : Nat) : (⟨b, off, none⟩ : Addr).add j = ⟨b, off + j, none⟩ := by
  unfold Addr.add
  split
  · rename_i h; subst h; rfl
  · rfl

set_option maxHeartbeats 3200000 in
set_option maxRecDepth 100000 in
theorem refClean_any (s : ByteArray) (hs : s.size ≤ 100000) (w : World) (hm : HasMax w) :
    Calls Tryd.prog 53 #[.string s] w fun e w' => e = .returned (.tuple #[.string (joinV (cleanV ddB (partsB s)).1), .bool (cleanV ddB (partsB s)).2]) ∧ Ext w w' := by
  obtain ⟨i0, hi, hz0, hz1, hz2⟩ := info_parts infoStr
  have Hp := Lib.hid (refParts_any s (by omega) w hm)
  have hlen : (Lib.join ((cleanV ddB (partsB s)).1.map (·.data.toList)) [47]).length ≤ 140737488355328 := by
    have h1 := joinV_len (l := (cleanV ddB (partsB s)).1) (n := s.size) (cleanV_mem ddB fun x hx => part_size hx)
    have h2 : (cleanV ddB (partsB s)).1.length ≤ (partsB s).length := by have := cfold_len ddB (partsB s) ([], true); simpa [cleanV] using this
    have h3 := parts_le s
    have h4 : (cleanV ddB (partsB s)).1.length * (s.size + 1) ≤ 100001 * 100001 := Nat.mul_le_mul (by omega) (by omega)
    omega
  have hl1 : (partsB s).length ≤ 100001 := by have := parts_le s; omega
  go_enter Tryd.func53, Tryd.ntmps53
  go_wp2_with fail
  refine Hp.out.mono ?_; rintro e w1 ⟨u, rfl, h1, hx1⟩
  obtain ⟨L, hL⟩ : ∃ L, partsB s = L := ⟨_, rfl⟩
  have Hl := Lib.hid hL
  rw [hL] at h1 hlen hl1
  clear hL Hp
  go_wp2_with fail
  go_loopw [4, 5] (fun v i wr => ∃ (l : List ByteArray) (k : Nat), (k = 0 ∨ k + 1 ≤ l.length) ∧ l.length ≤ 100001 ∧ i = .int .i64 ((k : Int) + 1) ∧ IsStrs wr v l ∧ cfold ddB l ([], true) = cfold ddB L ([], true) ∧ (∀ j (hj : j < k) (hj' : j + 1 < l.length), (ddB l[j] || !ddB l[j + 1]) = true) ∧ Ext w1 wr)
    (fun v i _ => (match v with | .slice _ n _ => n | _ => 0) * 200000 + ((match v with | .slice _ n _ => n | _ => 0) + 1 - (intOf i).toNat))
  case atStart => exact ⟨L, 0, .inl rfl, hl1, by go_num, h1, rfl, fun j hj => by omega, Ext.refl _⟩
  case round =>
    obtain ⟨l, k, hk, hll, rfl, hv, hC, hN, hE⟩ := hrel
    obtain ⟨oa, cap, rfl, _, hc⟩ := hv.open
    by_cases hlt : k + 1 < l.length
    · obtain ⟨b, off, e0, g1⟩ := hc (k + 1) hlt
      subst e0
      obtain ⟨_, _, e0, g0⟩ := hc k (by omega)
      cases e0
      have hcap : l.length ≤ cap := by
        rcases hv with ⟨⟨_, _, e⟩, rfl⟩ | ⟨_, _, _, e, h, _⟩
        · simp at hlt
        · cases e; exact h
      have lb : b < wr.heap.size := World.block_lt_of_cell? wr _ g1
      have hpair : ddB l[k + 1] = true → ddB l[k] = false → cfold ddB (l.take k ++ l.drop (k + 2)) ([], true) = cfold ddB L ([], true) := fun h1 h2 => by
        rw [← hC]
        have e1 : l = l.take k ++ l[k] :: l[k + 1] :: l.drop (k + 2) := by
          rw [← List.drop_eq_getElem_cons (by omega), ← List.drop_eq_getElem_cons (by omega), List.take_append_drop]
        conv => rhs; rw [e1]
        rw [cfold_pair ddB _ _ _ _ h2 h1]
      have hstep : (ddB l[k] || !ddB l[k + 1]) = true → ∀ j (hj : j < k + 1) (hj' : j + 1 < l.length), (ddB l[j] || !ddB l[j + 1]) = true := fun h j hj hj' => by
        rcases Nat.lt_or_ge j k with h' | h'
        · exact hN j h' hj'
        · obtain rfl : j = k := by omega
          exact h
      have Hpair := Lib.hid hpair
      have Hstep := Lib.hid hstep
      have HC := Lib.hid hC
      have HN := Lib.hid hN
      have Hc := Lib.hid hc
      have Hv := Lib.hid hv
      clear hpair hstep hC hN hc hv
      obtain ⟨x, hx⟩ : ∃ x, l[k + 1] = x := ⟨_, rfl⟩
      obtain ⟨y, hy⟩ : ∃ y, l[k] = y := ⟨_, rfl⟩
      rw [hx] at g1 Hpair Hstep
      rw [hy] at g0 Hpair Hstep
      clear hx hy
      cases hdx : ddB x with
      | false =>
        have t1 : (x.toList == [46, 46]) = false := by have := hdx; unfold ddB at this; exact this
        have Hs := Lib.hid (Hstep.out (by rw [hdx]; simp))
        clear hdx
        go_wp2_with fail
        go_roundw
        case rel => exact ⟨l, k + 1, .inr (by omega), hll, by go_num, Hv.out, HC.out, Hs.out, hE⟩
        case measure => simp [intOf]; omega
      | true =>
        have t1 : (x.toList == [46, 46]) = true := by have := hdx; unfold ddB at this; exact this
        cases hdy : ddB y with
        | true =>
          have t2 : (!y.toList == [46, 46]) = false := by have := hdy; unfold ddB at this; simpa using this
          have Hs := Lib.hid (Hstep.out (by rw [hdy]; simp))
          clear hdx hdy
          go_wp2_with fail
          go_roundw
          case rel => exact ⟨l, k + 1, .inr (by omega), hll, by go_num, Hv.out, HC.out, Hs.out, hE⟩
          case measure => simp [intOf]; omega
        | false =>
          have t2 : (!y.toList == [46, 46]) = true := by have := hdy; unfold ddB at this; simpa using this
          have Hs := Lib.hid (Hpair.out hdx hdy)
          clear hdx hdy
          go_wp2_with fail
          have hw1 : IntKind.i64.wrap (k : Int) = k := IntWalk.i64_in _ (by omega)
          have hw2 : IntKind.i64.wrap ((k : Int) + 1 + 1) = (k : Int) + 1 + 1 := IntWalk.i64_in _ (by omega)
          have hq1 : (k : Int) ≤ cap := by omega
          have hq2 : (0 : Int) ≤ (k : Int) + 1 + 1 := by omega
          have hq3 : (k : Int) + 1 + 1 ≤ (l.length : Int) := by omega
          have hq4 : (l.length : Int) ≤ (cap : Int) := by omega
          have hq5 : ((k : Int) + 1 + 1).toNat = k + 2 := by omega
          obtain ⟨A, hA, hnews⟩ : ∃ A : Addr, (if cap = k + 2 then some (⟨b, off, none⟩ : Addr) else some ⟨b, off + (k + 2), none⟩) = some A ∧ ∀ (j : Nat) (u : Value), ((l.drop (k + 2)).map Value.string)[j]? = some u → wr.cell? (A.add j) = some u := by
            by_cases hcp : cap = k + 2
            · refine ⟨_, if_pos hcp, fun j u hj => ?_⟩
              rw [List.drop_eq_nil_of_le (by omega)] at hj
              simp at hj
            · refine ⟨_, if_neg hcp, fun j u hj => ?_⟩
              have hj' : k + 2 + j < l.length := by
                have := (List.getElem?_eq_some_iff.1 hj).1
                simp at this; omega
              obtain ⟨_, _, e0, g⟩ := Hc.out (k + 2 + j) hj'
              cases e0
              simp [hj'] at hj
              rw [← hj, addr_add]
              simpa [Nat.add_assoc] using g
          have hnews1 : ∀ (j : Nat) (u : Value), ((l.take k).map Value.string)[j]? = some u → wr.cell? ((⟨b, off, none⟩ : Addr).add j) = some u := fun j u hj => by
            have hj' : j < l.length ∧ j < k := by
              have := (List.getElem?_eq_some_iff.1 hj).1
              simp at this; omega
            obtain ⟨_, _, e0, g⟩ := Hc.out j hj'.1
            cases e0
            simp [hj'.1, hj'.2] at hj
            rw [← hj, addr_add]
            exact g
          have hE0 : Ext wr ((wr.alloc (.cells #[] 9)).drew) := ((Ext.refl wr).alloc _).drew
          have hz0' : wr.heap.size ≤ ((wr.alloc (.cells #[] 9)).drew).heap.size := hE0.size
          have hown0 : ((wr.alloc (.cells #[] 9)).drew).ownsRow wr.heap.size 9 1 (.slice (some ⟨wr.heap.size, 0, none⟩) 0 0) 0 [] :=
            ⟨rfl, .inr ⟨wr.heap.size, 0, #[], rfl, Nat.le_refl _, by show (wr.heap.push _)[wr.heap.size]? = _; simp, Nat.le_refl _, Nat.zero_le _, rfl, rfl⟩⟩
          have N1 := Lib.hid (fun j u hj => hE0.cell (hnews1 j u hj))
          have N2 := Lib.hid hnews
          have O0 := Lib.hid hown0
          have L1 : Hid (((l.take k).map Value.string).length = k * 1) := Lib.hid (by simp; omega)
          have L2 : Hid (((l.drop (k + 2)).map Value.string).length = (l.length - (k + 2)) * 1) := Lib.hid (by simp)
          have U1 : Hid (∀ u ∈ (l.take k).map Value.string, u.oneCell' = true) := Lib.hid (fun u hu => by obtain ⟨y, _, rfl⟩ := List.mem_map.1 hu; rfl)
          have U2 : Hid (∀ u ∈ (l.drop (k + 2)).map Value.string, u.oneCell' = true) := Lib.hid (fun u hu => by obtain ⟨y, _, rfl⟩ := List.mem_map.1 hu; rfl)
          have HE0 := Lib.hid hE0
          clear hnews hnews1 hown0 hE0
          go_region_law (first
            | (refine step_append_own rfl (.tmp 28) (.tmp 32) 101 rfl wr.heap.size 9 i0 (.string ByteArray.empty) 1 16 Tryd.underlying101 hi hz0 hz1 hz2 rfl (by decide) _ 0 [] (by simp [Act.eval]) O0.out ⟨b, off, none⟩ k cap ((l.take k).map Value.string) (by simp [Act.eval]) L1.out N1.out U1.out (by unfold maxLen; omega) (by omega) hz0' ?_
               intro v2 w2 hown2 hgrow2 _
               have HE2 : Hid (Ext wr w2) := Lib.hid (HE0.out.ofGrown hgrow2 (fun j hj => by simp [Value.ownBlock] at hj; omega))
               have hz2' := HE2.out.size
               have O2 := Lib.hid hown2
               have N2' := Lib.hid (fun j u hj => HE2.out.cell (N2.out j u hj))
               clear hown2 hgrow2)
            | (refine step_append_own rfl (.tmp 33) (.tmp 37) 101 rfl wr.heap.size 9 i0 (.string ByteArray.empty) 1 16 Tryd.underlying101 hi hz0 hz1 hz2 rfl (by decide) _ _ _ (by simp [Act.eval]) O2.out A (l.length - (k + 2)) (cap - (k + 2)) ((l.drop (k + 2)).map Value.string) (by simp [Act.eval]) L2.out N2'.out U2.out (by unfold maxLen; omega) (by omega) hz2' ?_
               intro v3 w3 hown3 hgrow3 _
               have HE3 : Hid (Ext wr w3) := Lib.hid (HE2.out.ofGrown hgrow3 (fun j hj => owns_lt O2.out (Nat.le_refl _) j hj))
               have O3 := Lib.hid hown3
               clear hown3 hgrow3))
          have hS3 : IsStrs w3 v3 (l.take k ++ l.drop (k + 2)) := IsStrs.ofOwns (base := wr.heap.size) (by
            have e1 : (l.take k ++ l.drop (k + 2)).length = 0 + k + (l.length - (k + 2)) := by simp; omega
            have e2 : (l.take k ++ l.drop (k + 2)).map Value.string = [] ++ (l.take k).map Value.string ++ (l.drop (k + 2)).map Value.string := by simp
            rw [e1, e2]; exact O3.out)
          have hn3 : (l.take k ++ l.drop (k + 2)).length = l.length - 2 := by simp; omega
          obtain ⟨oa3, cap3, rfl, _, _⟩ := hS3.open
          have HS3 := Lib.hid hS3
          have Hn3 := Lib.hid hn3
          clear hS3 hn3
          generalize l.take k ++ l.drop (k + 2) = l3 at *
          go_wp2_with fail
          go_roundw
          case rel => exact ⟨l3, 0, .inl rfl, by have := Hn3.out; omega, by go_num, HS3.out, Hs.out, fun j hj => by omega, hE.trans HE3.out⟩
          case measure => have := Hn3.out; simp [intOf]; omega
    · have hnp : noPair ddB l = true := noPair_of ddB l (fun j hj => hN j (by omega) hj)
      have Hfin := Lib.hid (cleanV_noPair ddB l true hnp)
      have HC := Lib.hid hC
      have HE := Lib.hid hE
      clear hN hC hnp hc
      go_wp2_with fail
      obtain ⟨wo, rfl⟩ : ∃ wo : World, wo = wr := ⟨_, rfl⟩
      go_loopw [4, 6] (fun v ok wr => ∃ (c : Nat) (m : List ByteArray), c ≤ l.length ∧ m = l.drop c ∧ IsStrs wr v m ∧ (∀ j (hj : j < l.length), j < c → ddB l[j] = true) ∧ ok = .bool (decide (c = 0)) ∧ Ext wo wr) (fun v _ _ => match v with | .slice _ n _ => n | _ => 0)
      case atStart => exact ⟨0, l, by omega, rfl, hv, fun j hj hj' => by omega, rfl, Ext.refl _⟩
      case round =>
        obtain ⟨c, m, hc, hm, hv2, hall, rfl, hE2⟩ := hrel
        have Hv2 := Lib.hid hv2
        obtain ⟨oa2, cap2, rfl, hm2, hc2⟩ := hv2.open
        unfold maxLen at hm2
        have Hall := Lib.hid hall
        have hdl : m.length = l.length - c := by rw [hm]; exact List.length_drop
        have fin : (∀ (h : 0 < m.length), ddB m[0] = false) → cleanV ddB (partsB s) = (m, decide (c = 0)) := fun h => by
          obtain ⟨e1, e2⟩ := cleanV_at ddB c l hc hall (fun hl => by have := h (by omega); subst hm; simpa using this)
          rw [Hl.out, hm]
          exact HC.out.symm.trans (by rw [Hfin.out, e1, e2])
        have more : ∀ (h : 0 < m.length), ddB m[0] = true → (∀ j (hj : j < l.length), j < c + 1 → ddB l[j] = true) := fun h hd j hj hjc => by
          rcases Nat.lt_or_ge j c with h' | h'
          · exact hall j hj h'
          · obtain rfl : j = c := by omega
            subst hm; simpa using hd
        have hsz : m.length ≤ 140737488355328 := by omega
        have htl0 : m.tail = l.drop (c + 1) := by rw [hm, List.tail_drop]
        have Hfin2 := Lib.hid fin
        have Hmore := Lib.hid more
        have Htl := Lib.hid htl0
        have Hm := Lib.hid hm
        have Hdl := Lib.hid hdl
        have Hlen := Lib.hid hlen
        clear fin more htl0 hm hall hdl hlen
        by_cases hlt : 0 < m.length
        · obtain ⟨b, off, e0, g0⟩ := hc2 0 hlt
          subst e0
          obtain ⟨hcap2, A, hA, htl⟩ := hv2.tail hlt
          rw [Nat.add_zero] at g0
          have hpos : (0 : Int) < (m.length : Int) := by omega
          have hcap1 : (1 : Int) ≤ (cap2 : Int) := by omega
          have hlen1 : (1 : Int) ≤ (m.length : Int) := by omega
          have hcap3 : (m.length : Int) ≤ (cap2 : Int) := by omega
          have Hn := Lib.hid htl
          have Hmore2 := Lib.hid (Hmore.out hlt)
          have Hfin3 := Lib.hid Hfin2.out
          clear hc2 hv2 htl Hfin2 Hmore
          have hgen : ∃ x, m[0] = x := ⟨_, rfl⟩
          obtain ⟨x, hx⟩ := hgen
          have Hfin4 : Hid (ddB x = false → cleanV ddB (partsB s) = (m, decide (c = 0))) := Lib.hid (fun h => Hfin3.out (fun _ => by rw [hx]; exact h))
          have Hmore3 : Hid (ddB x = true → ∀ j (hj : j < l.length), j < c + 1 → ddB l[j] = true) := Lib.hid (fun h => Hmore2.out (by rw [hx]; exact h))
          rw [hx] at g0
          clear hx Hfin3 Hmore2
          cases hd : ddB x with
          | true =>
            have t1 : (x.toList == [46, 46]) = true := by have := hd; unfold ddB at this; exact this
            have Ha := Lib.hid (Hmore3.out hd)
            have hc3 : c + 1 ≤ l.length := by have := Hdl.out; omega
            clear hd Hfin4 Hmore3
            go_wp2_with fail
            go_roundw
            case rel => exact ⟨c + 1, m.tail, hc3, Htl.out, Hn.out, Ha.out, by simp, hE2⟩
            case measure => simp; omega
          | false =>
            have t1 : (x.toList == [46, 46]) = false := by have := hd; unfold ddB at this; exact this
            have Hr := Lib.hid (Hfin4.out hd)
            have hlen' : Hid ((Lib.join (m.map (·.data.toList)) [47]).length ≤ 140737488355328) := Lib.hid (by have := Hlen.out; rw [← Hl.out, Hr.out] at this; exact this)
            have HJ := Lib.hid (join_any wr _ _ Hv2.out hlen'.out hsz)
            clear hd Hfin4 Hmore3
            go_wp2_with fail
            refine HJ.out.mono ?_; rintro e w2 ⟨rfl, hx2⟩
            go_wp2_with fail
            go_ret2
            exact ⟨ret_val (by rw [Hr.out] <;> rfl), hx1.trans ((HE.out.trans hE2).trans hx2)⟩
        · have Hr := Lib.hid (Hfin2.out (fun h => (hlt h).elim))
          have hlen' : Hid ((Lib.join (m.map (·.data.toList)) [47]).length ≤ 140737488355328) := Lib.hid (by have := Hlen.out; rw [← Hl.out, Hr.out] at this; exact this)
          have HJ := Lib.hid (join_any wr _ _ Hv2.out hlen'.out hsz)
          have hpos : ¬ (0 : Int) < (m.length : Int) := by omega
          clear hc2 hv2 Hfin2 Hmore
          go_wp2_with fail
          refine HJ.out.mono ?_; rintro e w2 ⟨rfl, hx2⟩
          go_wp2_with fail
          go_ret2
          exact ⟨ret_val (by rw [Hr.out] <;> rfl), hx1.trans ((HE.out.trans hE2).trans hx2)⟩
end Go.Proofs.YtedcibjnnihhfaaDoor
