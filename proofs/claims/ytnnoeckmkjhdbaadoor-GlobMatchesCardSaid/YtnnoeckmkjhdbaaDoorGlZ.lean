/-
  The reference's matcher: what it says of a pattern's end and a name's end, and what it keeps. No conditions but bounds.
-/
import Derived.Test.YtnnoeckmkjhdbaaDoorGlY
import Derived.Test.YtnnoeckmkjhdbaaDoorGlQ
import Derived.Deep.CutBlock
namespace Go.Proofs.YtnnoeckmkjhdbaaDoor
open Go.RowKit Go.PlainAid

theorem gl_pre2 (s : ByteArray) : Lib.hasPrefix s.data.toList [42, 42] = (decide (1 < s.size) && (bt s 0 == 42) && (bt s 1 == 42)) := by
  obtain ⟨⟨l⟩⟩ := s
  match l with
  | [] => rfl
  | [x] =>
    have e : (⟨⟨[x]⟩⟩ : ByteArray).size = 1 := rfl
    rw [e]
    unfold Lib.hasPrefix
    simp [List.isPrefixOf]
  | x :: y :: l =>
    have e0 : bt (⟨⟨x :: y :: l⟩⟩ : ByteArray) 0 = (x.toNat : Int) := by
      unfold bt
      rw [dif_pos (by simp [ByteArray.size])]
      rfl
    have e1 : bt (⟨⟨x :: y :: l⟩⟩ : ByteArray) 1 = (y.toNat : Int) := by
      unfold bt
      rw [dif_pos (by simp [ByteArray.size])]
      rfl
    have h : ∀ z : UInt8, ((z.toNat : Int) == 42) = ((42 : UInt8) == z) := fun z => by
      by_cases h : (42 : UInt8) = z
      · subst h
        rfl
      · have h2 : ((z.toNat : Int) == 42) = false := by
          rw [beq_eq_false_iff_ne]
          exact fun e => h (UInt8.toNat_inj.1 (show (42 : UInt8).toNat = z.toNat by show 42 = z.toNat; omega))
        rw [h2]
        exact (beq_eq_false_iff_ne.2 h).symm
    rw [e0, e1, h x, h y, decide_eq_true (by simp [ByteArray.size])]
    unfold Lib.hasPrefix
    simp [List.isPrefixOf]
theorem cell_newK (w : World) (cs : Array Value) (t : TypeId) (i : Nat) : (w.alloc (.cells cs t)).cell? ⟨w.heap.size, i, none⟩ = cs[i]? := by
  have h := (MapKept.heap_alloc w (.cells cs t)).1
  simp only [World.cell?, h]
  rfl
def bQ (v : Value) : Bool := match v with | .bool c => c | _ => false
set_option maxHeartbeats 4000000 in
set_option maxRecDepth 100000 in
theorem globAll_any (P N : ByteArray) (hP : P.size ≤ 1000) (hN : N.size ≤ 1000) (b : Nat) : ∀ (m : Nat) (p n : ByteArray), p.size + n.size < m → sufOf P p → sufOf N n → valV p → ∀ w0 w, MemoS P N b w0 w →
    Calls Tryd.prog 8 #[.string p, .string n, .map (some b)] w fun x w' => x = .returned (.bool (ansV p n)) ∧ MemoS P N b w0 w' := by
  intro m
  induction m with
  | zero => exact fun _ _ h => absurd h (Nat.not_lt_zero _)
  | succ m ih =>
    intro p n hm hp hn hv w0 w hS
    have IH : Hid (∀ (p' n' : ByteArray), p'.size + n'.size < p.size + n.size → sufOf P p' → sufOf N n' → valV p' → ∀ w0 w, MemoS P N b w0 w → Calls Tryd.prog 8 #[.string p', .string n', .map (some b)] w fun x w' => x = .returned (.bool (ansV p' n')) ∧ MemoS P N b w0 w') := Lib.hid (fun p' n' h => ih p' n' (by omega))
    have HS := Lib.hid hS
    obtain ⟨⟨c, f, hM, hc, hF⟩, hT⟩ := hS
    have hml := hM.lt
    have HC := Lib.hid hc
    have HF := Lib.hid hF
    have HP := Lib.hid hp
    have HN := Lib.hid hn
    have HV := Lib.hid hv
    have ps : p.size ≤ 1000 := by have := hp.1; omega
    have ns : n.size ≤ 1000 := by have := hn.1; omega
    have hkey := Lib.hid (keyOfK (a := p.size) (d := n.size) (by omega) (by omega))
    have e1 := gl_emp p
    have e2 := gl_emp n
    obtain ⟨z, hz⟩ : ∃ z, z = decide (p.size = 0) := ⟨_, rfl⟩
    obtain ⟨y, hy⟩ : ∃ y, y = decide (n.size = 0) := ⟨_, rfl⟩
    rw [← hz] at e1
    rw [← hy] at e2
    have HZ := Lib.hid hz
    have HY := Lib.hid hy
    obtain ⟨dp, hdp⟩ : ∃ d, d = Lib.hasPrefix p.data.toList [42, 42] := ⟨_, rfl⟩
    have HDP := Lib.hid hdp
    have CP := fun w => Tryd.strings_HasPrefix p ⟨#[42, 42]⟩ w
    have ep : (⟨#[42, 42]⟩ : ByteArray).data.toList = [42, 42] := rfl
    rw [ep, ← hdp] at CP
    have CPH := Lib.hid CP
    have gp := get_bt p
    have gn := get_bt n
    have ck0 : (w.alloc (.cells #[.int .i64 (p.size : Int), .int .i64 (n.size : Int)] 45)).cell? ⟨w.heap.size, 0, none⟩ = some (.int .i64 (p.size : Int)) := cell_newK w _ _ _
    have ck1 : (w.alloc (.cells #[.int .i64 (p.size : Int), .int .i64 (n.size : Int)] 45)).cell? ⟨w.heap.size, 1, none⟩ = some (.int .i64 (n.size : Int)) := cell_newK w _ _ _
    have HMA := Lib.hid (hM.alloc (.cells #[.int .i64 (p.size : Int), .int .i64 (n.size : Int)] 45))
    clear ih hm hp hn hv hM hc hF hT hz hy hdp CP ep
    go_enter Tryd.func8, Tryd.ntmps8
    cases hf : f (keyL p.size n.size) with
    | some v =>
      obtain rfl := HF.out.get HP.out HN.out hf
      go_wp2_with (refine wpList_lookupF_ok _ rfl _ _ 33 rfl 45 4 keyedK Tryd.underlying33 (z := .bool false) (by first | exact Tryd.zeroValue4 _ | kernel_rfl | rfl) b c f rfl HMA.out (.agg #[.int .i64 (p.size : Int), .int .i64 (n.size : Int)]) (keyL p.size n.size) rfl hkey.out ?_; rw [hf])
      go_ret
      exact ⟨ret_bool rfl, HS.out.ext ((Ext.refl w).alloc _)⟩
    | none =>
      obtain ⟨wa, hwa⟩ : ∃ W, W = w.alloc (.cells #[.int .i64 (p.size : Int), .int .i64 (n.size : Int)] 45) := ⟨_, rfl⟩
      have hS1 : MemoS P N b wa wa := by rw [hwa]; exact HS.out.alloc _
      have hxa : Ext w wa := by rw [hwa]; exact (Ext.refl w).alloc _
      have HS1 := Lib.hid hS1
      go_upto_if 28 with (refine wpList_lookupF_ok _ rfl _ _ 33 rfl 45 4 keyedK Tryd.underlying33 (z := .bool false) (by first | exact Tryd.zeroValue4 _ | kernel_rfl | rfl) b c f rfl HMA.out (.agg #[.int .i64 (p.size : Int), .int .i64 (n.size : Int)]) (keyL p.size n.size) rfl hkey.out ?_; rw [hf])
      rw [← hwa] at ck0 ck1 ⊢
      clear HMA hwa hS1

      have hne : w.heap.size ≠ b := by omega
      have e11 := HZ.out
      have e12 := HY.out
      have HE1 := Lib.hid e11
      have HE2 := Lib.hid e12
      clear e11 e12 HZ HY
      go_upto_block 0 with fail
      go_cut [10] (fun v wx => v = .bool (ansV p n) ∧ MemoS P N b wa wx)
      case first =>
        go_upto_if 51 with fail
        cases z with
        | true =>
          have p0 : p.size = 0 := of_decide_eq_true HE1.out.symm
          have hv : Hid (y = ansV p n) := Lib.hid (by rw [ans_end p0 HV.out]; exact HE2.out)
          clear p0
          go_wp2_with fail
          go_meet
          exact ⟨by rw [hv.out], HS1.out⟩
        | false =>
          have p0 : ¬ p.size = 0 := of_decide_eq_false HE1.out.symm
          have P0 := Lib.hid p0
          have pz : 0 < p.size := by omega
          have pi : (0 : Int) < (p.size : Int) := by omega
          have pj : (1 : Int) ≤ (p.size : Int) := by omega
          have hs1 : sufOf P (p.extract 1 p.size) := sufOf_suf HP.out 1 pz
          have s1 : (p.extract 1 p.size).size = p.size - 1 := suf_size p 1
          have HS1A := Lib.hid hs1
          have S1A := Lib.hid s1
          clear p0 hs1 s1
          have hN1 : Hid (0 < n.size → sufOf N (n.extract 1 n.size) ∧ (n.extract 1 n.size).size = n.size - 1) := Lib.hid (fun h => ⟨sufOf_suf HN.out 1 h, suf_size n 1⟩)
          cases dp with
          | true =>
            have hd := HDP.out
            rw [gl_pre2] at hd
            have hd2 : 1 < p.size ∧ bt p 0 = 42 ∧ bt p 1 = 42 := by
              have h := hd.symm
              rw [Bool.and_eq_true, Bool.and_eq_true] at h
              exact ⟨of_decide_eq_true h.1.1, by simpa using h.1.2, by simpa using h.2⟩
            have HD2 := Lib.hid hd2
            clear hd hd2
            have pk : (2 : Int) ≤ (p.size : Int) := by have := HD2.out.1; omega
            have hst := ans_deep HD2.out.1 HD2.out.2.1 HD2.out.2.2 HV.out
            have HST := Lib.hid hst
            clear hst
            have C1 := Lib.hid (IH.out (p.extract 2 p.size) n (by have := suf_size p 2; have := HD2.out.1; show (suf p 2).size + n.size < _; omega) (sufOf_suf HP.out 2 (by have := HD2.out.1; omega)) HN.out HST.out.1 wa)
            go_upto_if 56 with ((with_reducible refine (CPH.out _).mono ?_); rintro x w4 ⟨rfl, hw4⟩; rw [hw4]; clear hw4)
            obtain ⟨v1, hv1⟩ : ∃ v, v = ansV (p.extract 2 p.size) n := ⟨_, rfl⟩
            rw [← hv1] at C1
            have HV1 := Lib.hid hv1
            clear hv1
            cases v1 with
            | true =>
              have hv : Hid (ansV p n = true) := Lib.hid (by rw [HST.out.2 n, show ansV (suf p 2) n = true from HV1.out.symm, Bool.true_or])
              go_wp2_with ((with_reducible refine (C1.out _ HS1.out).mono ?_); rintro x w5 ⟨rfl, hS5⟩; have HS5 := Lib.hid hS5; clear hS5)
              go_meet
              exact ⟨by rw [hv.out], HS5.out⟩
            | false =>
              cases y with
              | true =>
                have hv : Hid (ansV p n = false) := Lib.hid (by rw [HST.out.2 n, show ansV (suf p 2) n = false from HV1.out.symm, decide_eq_false (fun h => h (of_decide_eq_true HE2.out.symm))]; rfl)
                go_wp2_with ((with_reducible refine (C1.out _ HS1.out).mono ?_); rintro x w5 ⟨rfl, hS5⟩; have HS5 := Lib.hid hS5; clear hS5)
                go_meet
                exact ⟨by rw [hv.out], HS5.out⟩
              | false =>
                have n0 : n.size ≠ 0 := of_decide_eq_false HE2.out.symm
                have N0 := Lib.hid n0
                have nz : 0 < n.size := by omega
                have ni : (0 : Int) < (n.size : Int) := by omega
                have nj : (1 : Int) ≤ (n.size : Int) := by omega
                clear n0
                have C2 := Lib.hid (IH.out p (n.extract 1 n.size) (by have := (hN1.out nz).2; omega) HP.out (hN1.out nz).1 HV.out wa)
                have hv : Hid (ansV p n = ansV p (n.extract 1 n.size)) := Lib.hid (by rw [HST.out.2 n, show ansV (suf p 2) n = false from HV1.out.symm, decide_eq_true N0.out]; rfl)
                go_wp2_with (first | ((with_reducible refine (C1.out _ HS1.out).mono ?_); rintro x w5 ⟨rfl, hS5⟩; have HS5 := Lib.hid hS5; clear hS5) | ((with_reducible refine (C2.out _ HS5.out).mono ?_); rintro x w6 ⟨rfl, hS6⟩; have HS6 := Lib.hid hS6; clear hS6))
                go_meet
                exact ⟨by rw [hv.out], HS6.out⟩
          | false =>
            have hnd : ¬ (1 < p.size ∧ bt p 0 = 42 ∧ bt p 1 = 42) := fun h => by
              have hd := HDP.out
              rw [gl_pre2, decide_eq_true h.1, h.2.1, h.2.2] at hd
              cases hd
            have HND := Lib.hid hnd
            clear hnd
            go_upto_if 56 with ((with_reducible refine (CPH.out _).mono ?_); rintro x w4 ⟨rfl, hw4⟩; rw [hw4]; clear hw4)
            clear CPH HDP
            cases q42 : bt p 0 == 42 with
            | true =>
              have b42 : bt p 0 = 42 := by simpa using q42
              have hst := ans_star P0.out b42 (fun h => HND.out ⟨h.1, b42, h.2⟩) HV.out
              have HST := Lib.hid hst
              clear hst b42
              have C1 := Lib.hid (IH.out (p.extract 1 p.size) n (by have := S1A.out; omega) HS1A.out HN.out HST.out.1 wa)
              obtain ⟨v1, hv1⟩ : ∃ v, v = ansV (p.extract 1 p.size) n := ⟨_, rfl⟩
              rw [← hv1] at C1
              have HV1 := Lib.hid hv1
              clear hv1
              cases v1 with
              | true =>
                have hv : Hid (ansV p n = true) := Lib.hid (by rw [HST.out.2 n, show ansV (suf p 1) n = true from HV1.out.symm, Bool.true_or])
                go_wp2_with ((with_reducible refine (C1.out _ HS1.out).mono ?_); rintro x w5 ⟨rfl, hS5⟩; have HS5 := Lib.hid hS5; clear hS5)
                go_meet
                exact ⟨by rw [hv.out], HS5.out⟩
              | false =>
                cases y with
                | true =>
                  have hv : Hid (ansV p n = false) := Lib.hid (by rw [HST.out.2 n, show ansV (suf p 1) n = false from HV1.out.symm, decide_eq_false (fun h => h (of_decide_eq_true HE2.out.symm))]; rfl)
                  go_wp2_with ((with_reducible refine (C1.out _ HS1.out).mono ?_); rintro x w5 ⟨rfl, hS5⟩; have HS5 := Lib.hid hS5; clear hS5)
                  go_meet
                  exact ⟨by rw [hv.out], HS5.out⟩
                | false =>
                  have n0 : n.size ≠ 0 := of_decide_eq_false HE2.out.symm
                  have N0 := Lib.hid n0
                  have nz : 0 < n.size := by omega
                  have ni : (0 : Int) < (n.size : Int) := by omega
                  have nj : (1 : Int) ≤ (n.size : Int) := by omega
                  clear n0
                  have C2 := Lib.hid (IH.out p (n.extract 1 n.size) (by have := (hN1.out nz).2; omega) HP.out (hN1.out nz).1 HV.out wa)
                  cases q47 : bt n 0 == 47 with
                  | true =>
                    have q5 : (bt n 0 != 47) = false := by simpa using q47
                    have hv : Hid (ansV p n = false) := Lib.hid (by rw [HST.out.2 n, show ansV (suf p 1) n = false from HV1.out.symm, q47, Bool.not_true, Bool.and_false, Bool.false_and, Bool.or_false])
                    go_wp2_with ((with_reducible refine (C1.out _ HS1.out).mono ?_); rintro x w5 ⟨rfl, hS5⟩; have HS5 := Lib.hid hS5; clear hS5)
                    go_meet
                    exact ⟨by rw [hv.out], HS5.out⟩
                  | false =>
                    have q5 : (bt n 0 != 47) = true := by simpa using q47
                    have hv : Hid (ansV p n = ansV p (n.extract 1 n.size)) := Lib.hid (by rw [HST.out.2 n, show ansV (suf p 1) n = false from HV1.out.symm, decide_eq_true N0.out, q47]; rfl)
                    go_wp2_with (first | ((with_reducible refine (C1.out _ HS1.out).mono ?_); rintro x w5 ⟨rfl, hS5⟩; have HS5 := Lib.hid hS5; clear hS5) | ((with_reducible refine (C2.out _ HS5.out).mono ?_); rintro x w6 ⟨rfl, hS6⟩; have HS6 := Lib.hid hS6; clear hS6))
                    go_meet
                    exact ⟨by rw [hv.out], HS6.out⟩
            | false =>
              have n42 : bt p 0 ≠ 42 := by simpa using q42
              have N42 := Lib.hid n42
              clear n42
              go_upto_if 75 with fail
              cases q63 : bt p 0 == 63 with
              | true =>
                have b63 : bt p 0 = 63 := by simpa using q63
                have hst := ans_any P0.out b63 HV.out
                have HST := Lib.hid hst
                clear hst b63
                go_upto_if 100 with fail
                cases y with
                | true =>
                  have hv : Hid (ansV p n = false) := Lib.hid (by rw [HST.out.2 n, decide_eq_false (fun h => h (of_decide_eq_true HE2.out.symm)), Bool.false_and, Bool.false_and])
                  go_wp2_with fail
                  refine wp_region_det (fun w' => MemoS P N b wa w') (by kernel_rfl) (by kernel_rfl) (HS1.out.ext (Ext.refl wa).drew) ?_
                  repeat (first
                    | (refine det_skip (by rfl) ?_; simp only [Act.put, List.setIfInBounds_toArray, List.set_cons_zero, List.set_cons_succ, e2])
                    | (refine det_op (v := ?_) rfl (by rfl) (fun w' hS => ?_) ?_; rotate_left; (focus (go_wp2_with (fail); (first | refine ⟨?_, rfl, hS⟩ | refine ⟨?_, rfl, by assumption⟩); (first | (simp only [List.getElem?_toArray, List.getElem?_cons_succ, List.getElem?_cons_zero]; rfl) | rfl))); simp only [Act.put, List.setIfInBounds_toArray, List.set_cons_zero, List.set_cons_succ, e2]))
                  refine det_end ?_
                  intro w6 hS6
                  have HS6 := Lib.hid hS6
                  clear hS6
                  go_wp2_with fail
                  go_meet
                  exact ⟨by rw [hv.out], HS6.out⟩
                | false =>
                  have n0 : n.size ≠ 0 := of_decide_eq_false HE2.out.symm
                  have N0 := Lib.hid n0
                  have nz : 0 < n.size := by omega
                  have ni : (0 : Int) < (n.size : Int) := by omega
                  have nj : (1 : Int) ≤ (n.size : Int) := by omega
                  clear n0
                  cases q47 : bt n 0 == 47 with
                  | true =>
                    have q5 : (bt n 0 != 47) = false := by simpa using q47
                    have hv : Hid (ansV p n = false) := Lib.hid (by rw [HST.out.2 n, q47, Bool.not_true, Bool.and_false, Bool.false_and])
                    go_wp2_with fail
                    refine wp_region_det (fun w' => MemoS P N b wa w') (by kernel_rfl) (by kernel_rfl) (HS1.out.ext (Ext.refl wa).drew) ?_
                    repeat (first
                      | (refine det_skip (by rfl) ?_; simp only [Act.put, List.setIfInBounds_toArray, List.set_cons_zero, List.set_cons_succ, e2, q5])
                      | (refine det_op (v := ?_) rfl (by rfl) (fun w' hS => ?_) ?_; rotate_left; (focus (go_wp2_with (fail); (first | refine ⟨?_, rfl, hS⟩ | refine ⟨?_, rfl, by assumption⟩); (first | (simp only [List.getElem?_toArray, List.getElem?_cons_succ, List.getElem?_cons_zero]; rfl) | rfl))); simp only [Act.put, List.setIfInBounds_toArray, List.set_cons_zero, List.set_cons_succ, e2, q5]))
                    refine det_end ?_
                    intro w6 hS6
                    have HS6 := Lib.hid hS6
                    clear hS6
                    go_wp2_with fail
                    go_meet
                    exact ⟨by rw [hv.out], HS6.out⟩
                  | false =>
                    have q5 : (bt n 0 != 47) = true := by simpa using q47
                    have hv : Hid (ansV p n = ansV (p.extract 1 p.size) (n.extract 1 n.size)) := Lib.hid (by rw [HST.out.2 n, decide_eq_true N0.out, q47]; rfl)
                    have C2 := Lib.hid (IH.out (p.extract 1 p.size) (n.extract 1 n.size) (by have := (hN1.out nz).2; have := S1A.out; omega) HS1A.out (hN1.out nz).1 HST.out.1 wa)
                    go_wp2_with fail
                    refine wp_region_det (fun w' => MemoS P N b wa w') (by kernel_rfl) (by kernel_rfl) (HS1.out.ext (Ext.refl wa).drew) ?_
                    repeat (first
                      | (refine det_skip (by rfl) ?_; simp only [Act.put, List.setIfInBounds_toArray, List.set_cons_zero, List.set_cons_succ, e2, q5])
                      | (refine det_op (v := ?_) rfl (by rfl) (fun w' hS => ?_) ?_; rotate_left; (focus (go_wp2_with (((with_reducible refine (C2.out _ hS).mono ?_); rintro x w8 ⟨rfl, hS8⟩)); (first | refine ⟨?_, rfl, hS⟩ | refine ⟨?_, rfl, by assumption⟩); (first | (simp only [List.getElem?_toArray, List.getElem?_cons_succ, List.getElem?_cons_zero]; rfl) | rfl))); simp only [Act.put, List.setIfInBounds_toArray, List.set_cons_zero, List.set_cons_succ, e2, q5]))
                    refine det_end ?_
                    intro w6 hS6
                    have HS6 := Lib.hid hS6
                    clear hS6
                    go_wp2_with fail
                    go_meet
                    exact ⟨by rw [hv.out], HS6.out⟩
              | false =>
                have n63 : bt p 0 ≠ 63 := by simpa using q63
                have N63 := Lib.hid n63
                clear n63
                go_upto_if 100 with fail
                cases q91 : bt p 0 == 91 with
                | true =>
                  have b91 : bt p 0 = 91 := by simpa using q91
                  obtain ⟨g, r, hset, hr, hst⟩ := ans_set P0.out b91 HV.out
                  have hrs := sufOf_set HP.out P0.out hset
                  have HSET := Lib.hid hset
                  have HR := Lib.hid hr
                  have HST := Lib.hid hst
                  have HRS := Lib.hid hrs
                  clear hset hr hst hrs b91
                  have CS : Hid (Calls Tryd.prog 12 #[.string (p.extract 1 p.size)] wa fun x w' => ∃ mb, x = .returned (.tuple #[.map (some mb), .string r, .bool true]) ∧ Ext wa w' ∧ (∃ q, MapF w' Tryd.prog 5 mb q (bsF g))) := Lib.hid ((glSetQ_any (p.extract 1 p.size) (by have := S1A.out; omega) wa).mono (by
                    rintro x w5 ⟨v5, r5, ok5, rfl, hx5, hc5⟩
                    have h2 : setV (p.extract 1 p.size) = some (g, r) := HSET.out
                    rcases hc5 with ⟨h1, _⟩ | ⟨g5, mb, q, h1, h3, h4, _, _, h6⟩
                    · rw [h2] at h1
                      cases h1
                    · rw [h2] at h1
                      injection h1 with h1
                      injection h1 with e1 e2
                      subst e1 e2 h3 h4
                      exact ⟨mb, rfl, hx5, q, h6⟩))
                  go_upto_region 18 with ((with_reducible refine CS.out.mono ?_); rintro x w5 ⟨mb, rfl, hx5, q, hmb⟩)
                  have hS5 := HS1.out.ext hx5
                  have HS5 := Lib.hid hS5
                  have HMB := Lib.hid hmb
                  clear hS5 hmb
                  cases y with
                  | true =>
                    have hv : Hid (ansV p n = false) := Lib.hid (by rw [HST.out n, decide_eq_false (fun h => h (of_decide_eq_true HE2.out.symm)), Bool.false_and, Bool.false_and])
                    go_wp2_with fail
                    go_meet
                    exact ⟨by rw [hv.out], HS5.out⟩
                  | false =>
                    have n0 : n.size ≠ 0 := of_decide_eq_false HE2.out.symm
                    have N0 := Lib.hid n0
                    have nz : 0 < n.size := by omega
                    have ni : (0 : Int) < (n.size : Int) := by omega
                    have nj : (1 : Int) ≤ (n.size : Int) := by omega
                    clear n0
                    have hlk : (Instr.lookup 40 (.map (some mb)) (.int .u8 (bt n 0)) false).run Tryd.prog w5 = .ok (.bool (g (bt n 0))) w5 := by
                      obtain ⟨c9, e9, l9⟩ : ∃ c9 : Nat, bt n 0 = (c9 : Int) ∧ c9 < 256 := by
                        have := bt_rng n 0
                        exact ⟨(bt n 0).toNat, by omega, by omega⟩
                      rw [e9, run_lookupF (Maps.int_keyed Tryd.underlying5) Tryd.underlying40 (z := .bool false) (by first | exact Tryd.zeroValue4 _ | kernel_rfl | rfl) HMB.out (keyB c9 l9), bsF_get g l9]
                    cases q5 : g (bt n 0) with
                    | false =>
                      rw [q5] at hlk
                      have hv : Hid (ansV p n = false) := Lib.hid (by rw [HST.out n, q5, Bool.and_false, Bool.false_and])
                      go_wp2_with fail
                      go_meet
                      exact ⟨by rw [hv.out], HS5.out⟩
                    | true =>
                      rw [q5] at hlk
                      have hv : Hid (ansV p n = ansV r (n.extract 1 n.size)) := Lib.hid (by rw [HST.out n, q5, decide_eq_true N0.out]; rfl)
                      have C2 := Lib.hid (IH.out r (n.extract 1 n.size) (by have := (hN1.out nz).2; have := HRS.out.2; omega) HRS.out.1 (hN1.out nz).1 HR.out wa)
                      go_wp2_with ((with_reducible refine (C2.out _ HS5.out).mono ?_); rintro x w6 ⟨rfl, hS6⟩; have HS6 := Lib.hid hS6; clear hS6)
                      go_meet
                      exact ⟨by rw [hv.out], HS6.out⟩
                | false =>
                  have n91 : bt p 0 ≠ 91 := by simpa using q91
                  obtain ⟨c5, r, hlet, hr, hst⟩ := ans_let P0.out N42.out N63.out n91 HV.out
                  have hrs := sufOf_let HP.out hlet
                  have CL := glLetter_any p (by omega) wa
                  rw [hlet] at CL
                  unfold letR at CL
                  have HR := Lib.hid hr
                  have HST := Lib.hid hst
                  have HRS := Lib.hid hrs
                  have CLH := Lib.hid CL
                  clear CL hlet hr hst hrs n91
                  go_upto_region 7 with ((with_reducible refine CLH.out.mono ?_); rintro x w5 ⟨rfl, hx5⟩)
                  have hS5 := HS1.out.ext hx5
                  have HS5 := Lib.hid hS5
                  clear hS5
                  cases y with
                  | true =>
                    have hv : Hid (ansV p n = false) := Lib.hid (by rw [HST.out n, decide_eq_false (fun h => h (of_decide_eq_true HE2.out.symm)), Bool.false_and, Bool.false_and])
                    go_wp2_with fail
                    go_meet
                    exact ⟨by rw [hv.out], HS5.out⟩
                  | false =>
                    have n0 : n.size ≠ 0 := of_decide_eq_false HE2.out.symm
                    have N0 := Lib.hid n0
                    have nz : 0 < n.size := by omega
                    have ni : (0 : Int) < (n.size : Int) := by omega
                    have nj : (1 : Int) ≤ (n.size : Int) := by omega
                    clear n0
                    cases q5 : bt n 0 == c5 with
                    | false =>
                      have hv : Hid (ansV p n = false) := Lib.hid (by rw [HST.out n, q5, Bool.and_false, Bool.false_and])
                      go_wp2_with fail
                      go_meet
                      exact ⟨by rw [hv.out], HS5.out⟩
                    | true =>
                      have hv : Hid (ansV p n = ansV r (n.extract 1 n.size)) := Lib.hid (by rw [HST.out n, q5, decide_eq_true N0.out]; rfl)
                      have C2 := Lib.hid (IH.out r (n.extract 1 n.size) (by have := (hN1.out nz).2; have := HRS.out.2; omega) HRS.out.1 (hN1.out nz).1 HR.out wa)
                      go_wp2_with ((with_reducible refine (C2.out _ HS5.out).mono ?_); rintro x w6 ⟨rfl, hS6⟩; have HS6 := Lib.hid hS6; clear hS6)
                      go_meet
                      exact ⟨by rw [hv.out], HS6.out⟩
      case rest =>
        rename World => wb
        obtain ⟨rfl, hS2⟩ := hcut
        have k0 := hS2.cellOf ck0 hne
        have k1 := hS2.cellOf ck1 hne
        obtain ⟨⟨c2, f2, hM2, hc2, hF2⟩, hT2⟩ := hS2
        have HM2 := Lib.hid hM2
        have HC2 := Lib.hid hc2
        have HF2 := Lib.hid hF2
        have HT2 := Lib.hid hT2
        have hcb : Hid (c2 < maxLen) := Lib.hid (by
          have h := cntG_le P.size N.size f2
          have h3 : (P.size + 1) * (N.size + 1) ≤ 1001 * 1001 := Nat.mul_le_mul (by omega) (by omega)
          unfold maxLen
          omega)
        clear ck0 ck1 hM2 hc2 hF2 hT2
        go_wp2_with (refine wpList_updateF _ rfl _ _ _ 33 rfl 45 4 keyedK Tryd.underlying33 b c2 f2 rfl HM2.out hcb.out (.agg #[.int .i64 (p.size : Int), .int .i64 (n.size : Int)]) (.bool (ansV p n)) (keyL p.size n.size) rfl rfl hkey.out ?_; intro w9 hM9 hg9)
        go_ret
        exact ⟨ret_bool rfl, ⟨_, _, hM9, cntG_set HP.out.1 HN.out.1 _ HC2.out, HF2.out.put HP.out HN.out (by omega) (by omega)⟩, ((HS.out.2.thenExt hxa).trans HT2.out (fun _ e => .inl e)).grown hg9 (fun i e => .inl (by cases e; rfl))⟩
end Go.Proofs.YtnnoeckmkjhdbaaDoor
