/-
  volume.Join: its walk, over what volume.read gives. No conditions but the arguments' bounds.
-/
import Derived.Test.YtiiaoagobjgkiaaGreatDoorVjR
import Derived.Test.YtiiaoagobjgkiaaGreatDoorDetM
import Derived.Test.YtiiaoagobjgkiaaGreatDoorVjV
import Derived.Test.YtiiaoagobjgkiaaGreatDoorMapK
import Derived.Test.YtiiaoagobjgkiaaGreatDoorStrs
import Derived.Test.YtiiaoagobjgkiaaGreatDoorPlV
import Derived.Laws.Tables
namespace Go.Proofs.YtiiaoagobjgkiaaGreatDoor
open Go.RowKit Go.WideShapes
open Go.Maps (Keyed int_keyed)

/-- A text and an error with its place come back. -/
def GivesVj (R : Tep) (w : World) (x : Ending) (w' : World) : Prop := ∃ v, x = .returned (.tuple #[.string R.v, v]) ∧ IsErr w' v R.e R.p ∧ Ext w w'
theorem isAt_made (w : World) (k p : Int) : IsAt (w.alloc (.cells #[.int .i64 k, .int .i64 p] 91)) w.heap.size k p := ⟨by simp, by simp⟩
/-- The parts so far. -/
def partsF (M : Nat → Int) (D : Nat → ByteArray) (j : Nat) : Lit → Option Value := fun x => match x with | .int .i64 m => (pickD M D j m).map fun d => .agg #[.string d] | _ => none
theorem partsF_zero (M : Nat → Int) (D : Nat → ByteArray) : partsF M D 0 = fun _ => none := by
  funext x
  unfold partsF
  split <;> rfl
theorem partsF_succ {M : Nat → Int} {D : Nat → ByteArray} {j : Nat} (h : ∀ k, k < j → M k ≠ M j) : setF (partsF M D j) (.int .i64 (M j)) (.agg #[.string (D j)]) = partsF M D (j + 1) := by
  funext x
  unfold setF
  by_cases e : x = .int .i64 (M j)
  · rw [if_pos e, e]
    unfold partsF
    simp only
    rw [pickD_succ M D j _ h, if_pos rfl]
    rfl
  · rw [if_neg e]
    unfold partsF
    split
    · rename_i m
      rw [pickD_succ M D j m h, if_neg (fun em => e (by rw [em]))]
    · rfl
theorem partsF_get (M : Nat → Int) (D : Nat → ByteArray) (j : Nat) (k : Nat) : (partsF M D j (.int .i64 (k : Int))).getD (.agg #[.string ⟨#[]⟩]) = .agg #[.string (pickB M D j k)] := by
  unfold partsF pickB
  simp only
  cases pickD M D j (k : Int) <;> rfl
theorem partsF_is (M : Nat → Int) (D : Nat → ByteArray) (j : Nat) (m : Int) : (partsF M D j (.int .i64 m)).isSome = (pickD M D j m).isSome := by
  unfold partsF
  simp only [Option.isSome_map]
theorem keyI (m : Int) (h0 : -9223372036854775808 ≤ m) (h1 : m ≤ 9223372036854775807) : keyOf Tryz.prog 3 (.int .i64 m) = some (.int .i64 m) := Maps.keyOf_int_mk Tryz.underlying3 (by
  have e1 : IntKind.i64.min = -9223372036854775808 := by decide
  have e2 : IntKind.i64.max = 9223372036854775807 := by decide
  show (decide (IntKind.i64.min ≤ m) && decide (m ≤ IntKind.i64.max)) = true
  rw [e1, e2, decide_eq_true h0, decide_eq_true h1]
  rfl)
/-- What the number of volumes is so far. -/
def manyV (U : Nat → Int) (j : Nat) : Int := if j = 0 then 0 else U 0
theorem manyV_pos {U : Nat → Int} {j : Nat} (h : 0 < j) : manyV U j = U 0 := if_neg (by omega)
theorem fld_part (p : ByteArray) (w : World) : (Instr.field 86 (.agg #[.string p]) 0).run Tryz.prog w = .ok (.string p) w := by kernel_rfl
theorem partsF_g (M : Nat → Int) (D : Nat → ByteArray) (j : Nat) (m : Int) : (partsF M D j (.int .i64 m)).getD (.agg #[.string ⟨#[]⟩]) = .agg #[.string ((pickD M D j m).getD ⟨#[]⟩)] := by
  unfold partsF
  simp only
  cases pickD M D j m <;> rfl
theorem catF_le {T : Nat → ByteArray} {B n : Nat} (h : ∀ k, k < n → (T k).size ≤ B) : ∀ k, k ≤ n → (catF T ⟨#[]⟩ k).size ≤ k * B
  | 0, _ => by show 0 ≤ _; omega
  | k + 1, hk => by
    have h1 := catF_le h k (by omega)
    have h2 := h k (by omega)
    show (catF T ⟨#[]⟩ k ++ T k).size ≤ _
    rw [ByteArray.size_append, Nat.succ_mul]
    omega
theorem pickB_le {M : Nat → Int} {D : Nat → ByteArray} {n B : Nat} (h : ∀ i, i < n → (D i).size ≤ B) (k : Nat) : (pickB M D n k).size ≤ B := by
  unfold pickB pickD
  cases hf : (List.range n).find? fun i => M i == (k : Int) with
  | none => show 0 ≤ _; omega
  | some i =>
    have := List.mem_of_find?_eq_some hf
    exact h i (by simpa using this)

set_option maxHeartbeats 4000000 in
set_option maxRecDepth 100000 in
theorem volJoin_any (w : World) (oa : Option Addr) (n cap : Nat) (T : Nat → ByteArray) (hn : n ≤ 30) (hat : ∀ k, k < n → ∃ b off, oa = some ⟨b, off, none⟩ ∧ w.cell? ⟨b, off + k, none⟩ = some (.string (T k)))
    (X : Nat → Nat → ByteArray) (kd : Nat → Int) (N : Nat → Nat → Int) (D : Nat → ByteArray) (E : Nat → Int)
    (hR : ∀ i, i < n → ∀ W, Ext w W → Calls Tryz.prog 41 #[.string (T i)] W fun x w' => x = .returned (.tuple #[.agg (rowRaw (X i) (kd i) (N i)), .string (D i), errOf (E i)]) ∧ Ext W w')
    (hD : ∀ i, i < n → (D i).size ≤ 40000) (hr : ∀ i, i < n → E i = 0 → 0 ≤ N i 0 ∧ N i 0 < N i 1 ∧ N i 1 ≤ 20) (h0 : ∀ i, i < n → E i ≠ 0 → N i 0 = 0) (hg : HasHandle w) :
    Calls Tryz.prog 12 #[.slice oa n cap] w (GivesVj (joinT E (fun i => N i 1) (fun i => N i 0) D n) w) := by
  obtain ⟨U, hU⟩ : ∃ U : Nat → Int, U = fun i => N i 1 := ⟨_, rfl⟩
  obtain ⟨M, hM⟩ : ∃ M : Nat → Int, M = fun i => N i 0 := ⟨_, rfl⟩
  rw [← hU, ← hM]
  have hUj : ∀ j, N j 1 = U j := fun j => by rw [hU]
  have hMj : ∀ j, N j 0 = M j := fun j => by rw [hM]
  simp only [hUj, hMj] at hr h0
  have Hr := Lib.hid hr
  have H0 := Lib.hid h0
  have HR := Lib.hid hR
  have Hat := Lib.hid hat
  have HUM := Lib.hid (And.intro hUj hMj)
  have hcz := Lib.hid (fun (k : Nat) (hk : k ≤ n) => catF_le (T := pickB M D n) (B := 40000) (n := n) (fun i _ => pickB_le hD i) k hk)
  have hpz := Lib.hid (fun k => pickB_le (M := M) hD k)
  obtain ⟨R, hRe⟩ : ∃ R, R = joinT E U M D n := ⟨_, rfl⟩
  rw [← hRe]
  by_cases hn0 : n = 0
  · have e1 : R = ⟨⟨#[]⟩, 8, -1⟩ := by rw [hRe]; exact if_pos hn0
    subst e1
    have q : ((n : Int) == 0) = true := by rw [hn0]; rfl
    clear hRe hr h0 hR hat hU hM
    go_enter Tryz.func12, Tryz.ntmps12
    go_wp2_with fail
    go_ret2
    exact ⟨_, rfl, .inl ⟨rfl, rfl⟩, (by show Below _ _ _; repeat' (first | (with_reducible exact Below.refl _ _) | (with_reducible assumption) | (with_reducible refine belowDrewN ?_ _) | (with_reducible refine Below.alloc ?_ ?_ _) | (with_reducible refine Below.drew ?_) | (with_reducible refine Below.setCell ?_ ?_ _) | go_size))⟩
  · have q0 : ((n : Int) == 0) = false := by simp; omega
    have HRe := Lib.hid hRe
    clear hRe hr h0 hR hat hU hM hUj hMj
    have hmm := @run_makeMap Tryz.prog
    have hfld := fld_part
    go_enter Tryz.func12, Tryz.ntmps12
    go_wp2_with fail
    clear hmm
    have hm0 : MapF (w.alloc (.map #[] 0)) Tryz.prog 3 w.heap.size 0 (partsF M D 0) := by rw [partsF_zero]; exact mapF_made w _ _
    go_loopw [5, 22] (fun many i wr => ∃ j : Nat, j ≤ n ∧ (∀ k, k < j → cdV E U M k = 0) ∧ many = .int .i64 (manyV U j) ∧ i = .int .i64 (j : Int) ∧ MapF wr Tryz.prog 3 w.heap.size j (partsF M D j) ∧ Ext w wr) (fun _ i _ => n - (intOf i).toNat)
    case atStart => exact ⟨0, Nat.zero_le _, (fun k hk => absurd hk (Nat.not_lt_zero _)), rfl, rfl, hm0, (Ext.refl w).alloc _⟩
    case round =>
      obtain ⟨j, hj, hz, rfl, rfl, hMp, hE⟩ := hrel
      have HZ := Lib.hid hz
      clear hz
      by_cases hlt : j < n
      · obtain ⟨b, off, hoa, hc⟩ := Hat.out j hlt
        have hcw := hE.cell hc
        have hcl := World.block_lt_of_cell? _ _ hcw
        subst hoa
        clear hc
        have cr := fun W hW => HR.out j hlt W hW
        unfold rowRaw at cr
        rw [HUM.out.1 j, HUM.out.2 j] at cr
        have hDj := hD j hlt
        by_cases hEj : E j = 0
        · obtain ⟨b1, b2, b3⟩ := Hr.out j hlt hEj
          have hkey := keyI (M j) (by omega) (by omega)
          have hmv : 0 < j → manyV U j = U 0 := manyV_pos
          rw [hEj, show errOf 0 = .nilIface from rfl] at cr
          have CRj := Lib.hid cr
          have HEj := Lib.hid hEj
          have Hb := Lib.hid (And.intro b1 (And.intro b2 b3))
          clear cr hEj b1 b2 b3 HR HUM Hr H0
          by_cases hord : 0 < j ∧ U j ≠ U 0
          · have HRj : Hid (R = ⟨⟨#[]⟩, 10, (j : Int)⟩) := Lib.hid (by
              have hc := cdV_order (M := M) HEj.out hord.1 hord.2
              rw [HRe.out, joinT_hit hlt HZ.out (by rw [hc]; decide), hc])
            have q1 : decide ((0 : Int) < (j : Int)) = true := decide_eq_true (by omega)
            have q1n : decide (0 < j) = true := decide_eq_true hord.1
            have q1p : 0 < j := hord.1
            have q2 : (U j != U 0) = true := by simpa using hord.2
            rw [hmv hord.1]
            clear hmv hord
            go_wp2_with fail
            refine (CRj.out _ hE).mono ?_; rintro x w3 ⟨rfl, hx3⟩
            have HM4 := Lib.hid ((hMp.ext hx3).alloc (.cells #[.string (X j 0), .string (X j 1), .string (X j 2), .string (X j 3), .string (X j 4), .int .u8 (kd j), .int .i64 (M j), .int .i64 (U j), .int .i64 (N j 2), .int .i64 (N j 3), .int .i64 (N j 4), .int .i64 (N j 5), .int .i64 (N j 6)] 82))
            have hE4 : Ext w (w3.alloc (.cells #[.string (X j 0), .string (X j 1), .string (X j 2), .string (X j 3), .string (X j 4), .int .u8 (kd j), .int .i64 (M j), .int .i64 (U j), .int .i64 (N j 2), .int .i64 (N j 3), .int .i64 (N j 4), .int .i64 (N j 5), .int .i64 (N j 6)] 82)) := (hE.trans hx3).alloc _
            clear hMp
            have CT := Lib.hid (fun w (hg : HasHandle w) => tell_errno 10 w hg)
            go_wp2_with (refine wpList_lookupF_ok _ rfl (.tmp 47) (.tmp 49) 81 rfl 3 86 (int_keyed Tryz.underlying3) Tryz.underlying81 (z := .agg #[.string ⟨#[]⟩]) (by first | exact Tryz.zeroValue86 _ | kernel_rfl | rfl) w.heap.size j (partsF M D j) rfl HM4.out (.int .i64 (M j)) (.int .i64 (M j)) rfl hkey ?_; rw [partsF_g, partsF_is])
            refine (CT.out _ (hg.ext (hE4.alloc _))).mono ?_; rintro x w5 ⟨rfl, hx5⟩
            go_wp2_with fail
            go_ret2
            exact ⟨_, by rw [HRj.out]; rfl, .inr ⟨_, rfl, by rw [HRj.out]; exact isAt_made w5 _ _⟩, ((hE4.alloc _).trans hx5).alloc _⟩
          · have hu : 0 < j → U j = U 0 := fun h => Classical.byContradiction fun he => hord ⟨h, he⟩
            have Hu := Lib.hid hu
            clear hord
            cases hs : (pickD M D j (M j)).isSome with
            | true =>
              obtain ⟨k, hk, hMk⟩ := pickD_some hs
              have HRj : Hid (R = ⟨⟨#[]⟩, 9, (j : Int)⟩) := Lib.hid (by
                have hc := cdV_twice HEj.out hu hk hMk
                rw [HRe.out, joinT_hit hlt HZ.out (by rw [hc]; decide), hc])
              have q1 : decide ((0 : Int) < (j : Int)) = true := decide_eq_true (by omega)
              have q1n : decide (0 < j) = true := decide_eq_true (by omega)
              have q1p : 0 < j := by omega
              have q2 : (U j != U 0) = false := by simpa using hu (by omega)
              rw [hmv (by omega)]
              clear hmv hMk hu hk
              go_wp2_with fail
              refine (CRj.out _ hE).mono ?_; rintro x w3 ⟨rfl, hx3⟩
              have HM4 := Lib.hid ((hMp.ext hx3).alloc (.cells #[.string (X j 0), .string (X j 1), .string (X j 2), .string (X j 3), .string (X j 4), .int .u8 (kd j), .int .i64 (M j), .int .i64 (U j), .int .i64 (N j 2), .int .i64 (N j 3), .int .i64 (N j 4), .int .i64 (N j 5), .int .i64 (N j 6)] 82))
              have hE4 : Ext w (w3.alloc (.cells #[.string (X j 0), .string (X j 1), .string (X j 2), .string (X j 3), .string (X j 4), .int .u8 (kd j), .int .i64 (M j), .int .i64 (U j), .int .i64 (N j 2), .int .i64 (N j 3), .int .i64 (N j 4), .int .i64 (N j 5), .int .i64 (N j 6)] 82)) := (hE.trans hx3).alloc _
              clear hMp
              have CT := Lib.hid (fun w (hg : HasHandle w) => tell_errno 9 w hg)
              go_wp2_with (refine wpList_lookupF_ok _ rfl (.tmp 47) (.tmp 49) 81 rfl 3 86 (int_keyed Tryz.underlying3) Tryz.underlying81 (z := .agg #[.string ⟨#[]⟩]) (by first | exact Tryz.zeroValue86 _ | kernel_rfl | rfl) w.heap.size j (partsF M D j) rfl HM4.out (.int .i64 (M j)) (.int .i64 (M j)) rfl hkey ?_; rw [partsF_g, partsF_is, hs])
              refine (CT.out _ (hg.ext (hE4.alloc _))).mono ?_; rintro x w5 ⟨rfl, hx5⟩
              go_wp2_with fail
              go_ret2
              exact ⟨_, by rw [HRj.out]; rfl, .inr ⟨_, rfl, by rw [HRj.out]; exact isAt_made w5 _ _⟩, ((hE4.alloc _).trans hx5).alloc _⟩
            | false =>
              have hnew : ∀ k, k < j → M k ≠ M j := fun k hk he => by
                rw [pickD_is hk he] at hs
                cases hs
              have HZ2 : Hid (∀ k, k < j + 1 → cdV E U M k = 0) := Lib.hid (fun k hk => by
                rcases Nat.lt_succ_iff_lt_or_eq.1 hk with h1 | rfl
                · exact HZ.out k h1
                · exact cdV_good HEj.out hu hnew)
              have Hnew := Lib.hid hnew
              have hmu : Hid (U j = manyV U (j + 1)) := Lib.hid (by
                rw [manyV_pos (by omega)]
                rcases Nat.eq_zero_or_pos j with h1 | h1
                · rw [h1]
                · exact hu h1)
              clear hnew hu
              rcases Nat.eq_zero_or_pos j with hj0 | hj0
              · have q1 : decide ((0 : Int) < (j : Int)) = false := decide_eq_false (by omega)
                have q1n : decide (0 < j) = false := decide_eq_false (by omega)
                have q1p : ¬ 0 < j := by omega
                clear hj0 hmv
                have hml := hMp.lt
                go_wp2_with fail
                refine (CRj.out _ hE).mono ?_; rintro x w3 ⟨rfl, hx3⟩
                have HM4 := Lib.hid ((hMp.ext hx3).alloc (.cells #[.string (X j 0), .string (X j 1), .string (X j 2), .string (X j 3), .string (X j 4), .int .u8 (kd j), .int .i64 (M j), .int .i64 (U j), .int .i64 (N j 2), .int .i64 (N j 3), .int .i64 (N j 4), .int .i64 (N j 5), .int .i64 (N j 6)] 82))
                have hE4 : Ext w (w3.alloc (.cells #[.string (X j 0), .string (X j 1), .string (X j 2), .string (X j 3), .string (X j 4), .int .u8 (kd j), .int .i64 (M j), .int .i64 (U j), .int .i64 (N j 2), .int .i64 (N j 3), .int .i64 (N j 4), .int .i64 (N j 5), .int .i64 (N j 6)] 82)) := (hE.trans hx3).alloc _
                clear hMp
                have hwl := hx3.size
                go_upto_region 16 with (refine wpList_lookupF_ok _ rfl (.tmp 47) (.tmp 49) 81 rfl 3 86 (int_keyed Tryz.underlying3) Tryz.underlying81 (z := .agg #[.string ⟨#[]⟩]) (by first | exact Tryz.zeroValue86 _ | kernel_rfl | rfl) w.heap.size j (partsF M D j) rfl HM4.out (.int .i64 (M j)) (.int .i64 (M j)) rfl hkey ?_; rw [partsF_g, partsF_is, hs])
                have c6 : ((w3.alloc (.cells #[.string (X j 0), .string (X j 1), .string (X j 2), .string (X j 3), .string (X j 4), .int .u8 (kd j), .int .i64 (M j), .int .i64 (U j), .int .i64 (N j 2), .int .i64 (N j 3), .int .i64 (N j 4), .int .i64 (N j 5), .int .i64 (N j 6)] 82)).alloc (.cells #[.string ((pickD M D j (M j)).getD ⟨#[]⟩)] 86)).cell? ⟨w3.heap.size, 6, none⟩ = some (.int .i64 (M j)) := ((Ext.refl (w3.alloc (.cells #[.string (X j 0), .string (X j 1), .string (X j 2), .string (X j 3), .string (X j 4), .int .u8 (kd j), .int .i64 (M j), .int .i64 (U j), .int .i64 (N j 2), .int .i64 (N j 3), .int .i64 (N j 4), .int .i64 (N j 5), .int .i64 (N j 6)] 82))).alloc (.cells #[.string ((pickD M D j (M j)).getD ⟨#[]⟩)] 86)).cell (show (w3.alloc (.cells #[.string (X j 0), .string (X j 1), .string (X j 2), .string (X j 3), .string (X j 4), .int .u8 (kd j), .int .i64 (M j), .int .i64 (U j), .int .i64 (N j 2), .int .i64 (N j 3), .int .i64 (N j 4), .int .i64 (N j 5), .int .i64 (N j 6)] 82)).cell? ⟨w3.heap.size, 6, none⟩ = some (.int .i64 (M j)) by simp)
                have c7 : ((w3.alloc (.cells #[.string (X j 0), .string (X j 1), .string (X j 2), .string (X j 3), .string (X j 4), .int .u8 (kd j), .int .i64 (M j), .int .i64 (U j), .int .i64 (N j 2), .int .i64 (N j 3), .int .i64 (N j 4), .int .i64 (N j 5), .int .i64 (N j 6)] 82)).alloc (.cells #[.string ((pickD M D j (M j)).getD ⟨#[]⟩)] 86)).cell? ⟨w3.heap.size, 7, none⟩ = some (.int .i64 (U j)) := ((Ext.refl (w3.alloc (.cells #[.string (X j 0), .string (X j 1), .string (X j 2), .string (X j 3), .string (X j 4), .int .u8 (kd j), .int .i64 (M j), .int .i64 (U j), .int .i64 (N j 2), .int .i64 (N j 3), .int .i64 (N j 4), .int .i64 (N j 5), .int .i64 (N j 6)] 82))).alloc (.cells #[.string ((pickD M D j (M j)).getD ⟨#[]⟩)] 86)).cell (show (w3.alloc (.cells #[.string (X j 0), .string (X j 1), .string (X j 2), .string (X j 3), .string (X j 4), .int .u8 (kd j), .int .i64 (M j), .int .i64 (U j), .int .i64 (N j 2), .int .i64 (N j 3), .int .i64 (N j 4), .int .i64 (N j 5), .int .i64 (N j 6)] 82)).cell? ⟨w3.heap.size, 7, none⟩ = some (.int .i64 (U j)) by simp)
                have kl := World.block_lt_of_cell? _ _ c6
                have hne : w3.heap.size ≠ w.heap.size := by omega
                refine wp_region_detF (MapS Tryz.prog 3 w _ w.heap.size j (partsF M D j) (.int .i64 (M j)) (.agg #[.string (D j)])) false (by kernel_rfl) (by kernel_rfl) (MapS.start (hE4.alloc (.cells #[.string ((pickD M D j (M j)).getD ⟨#[]⟩)] 86)) (HM4.out.alloc (.cells #[.string ((pickD M D j (M j)).getD ⟨#[]⟩)] 86)) (Nat.le_refl _)) ?_
                repeat (first
                  | (refine detF_skip (by rfl) ?_; simp only [Act.put, List.setIfInBounds_toArray, List.set_cons_zero, List.set_cons_succ])
                  | (refine detF_plain (v := ?_) rfl (by rfl) (fun bq w9 hS => ?_) ?_; rotate_left; (focus (have hcl := hS.1; go_wp2_with fail; refine ⟨?_, rfl, hS⟩; (first | (simp only [List.getElem?_toArray, List.getElem?_cons_succ, List.getElem?_cons_zero]; rfl) | rfl))); simp only [Act.put, List.setIfInBounds_toArray, List.set_cons_zero, List.set_cons_succ])
                  | (refine detF_store (by rfl) (MapS.write (.tmp 67) (.tmp 69) (.tmp 73) rfl (by rfl) (by rfl) (by rfl) (int_keyed Tryz.underlying3) Tryz.underlying81 (by unfold maxLen; omega) hkey) ?_; simp only [Act.put]))
                refine detF_end ?_
                intro w8 hS
                have hm8 : MapF w8 Tryz.prog 3 w.heap.size (j + 1) (partsF M D (j + 1)) := by
                  have h : MapF w8 Tryz.prog 3 w.heap.size (if true = true then (if (partsF M D j (.int .i64 (M j))).isSome then j else j + 1) else j) (if true = true then setF (partsF M D j) (.int .i64 (M j)) (.agg #[.string (D j)]) else partsF M D j) := hS.2.2.1
                  rw [if_pos rfl, if_pos rfl, partsF_is, hs, if_neg (by decide), partsF_succ Hnew.out] at h
                  exact h
                have hE8 := hS.2.1
                clear hS c6 c7 kl
                go_wp2_with fail
                go_roundw
                case rel => exact ⟨j + 1, hlt, HZ2.out, by rw [hmu.out], by go_num, hm8, hE8⟩
                case measure => simp [intOf]; omega
              · have q1 : decide ((0 : Int) < (j : Int)) = true := decide_eq_true (by omega)
                have q1n : decide (0 < j) = true := decide_eq_true hj0
                have q2 : (U j != U 0) = false := by simpa using Hu.out hj0
                rw [hmv hj0]
                clear hmv
                have hml := hMp.lt
                go_wp2_with fail
                refine (CRj.out _ hE).mono ?_; rintro x w3 ⟨rfl, hx3⟩
                have HM4 := Lib.hid ((hMp.ext hx3).alloc (.cells #[.string (X j 0), .string (X j 1), .string (X j 2), .string (X j 3), .string (X j 4), .int .u8 (kd j), .int .i64 (M j), .int .i64 (U j), .int .i64 (N j 2), .int .i64 (N j 3), .int .i64 (N j 4), .int .i64 (N j 5), .int .i64 (N j 6)] 82))
                have hE4 : Ext w (w3.alloc (.cells #[.string (X j 0), .string (X j 1), .string (X j 2), .string (X j 3), .string (X j 4), .int .u8 (kd j), .int .i64 (M j), .int .i64 (U j), .int .i64 (N j 2), .int .i64 (N j 3), .int .i64 (N j 4), .int .i64 (N j 5), .int .i64 (N j 6)] 82)) := (hE.trans hx3).alloc _
                clear hMp
                have hwl := hx3.size
                go_upto_region 16 with (refine wpList_lookupF_ok _ rfl (.tmp 47) (.tmp 49) 81 rfl 3 86 (int_keyed Tryz.underlying3) Tryz.underlying81 (z := .agg #[.string ⟨#[]⟩]) (by first | exact Tryz.zeroValue86 _ | kernel_rfl | rfl) w.heap.size j (partsF M D j) rfl HM4.out (.int .i64 (M j)) (.int .i64 (M j)) rfl hkey ?_; rw [partsF_g, partsF_is, hs])
                have c6 : ((w3.alloc (.cells #[.string (X j 0), .string (X j 1), .string (X j 2), .string (X j 3), .string (X j 4), .int .u8 (kd j), .int .i64 (M j), .int .i64 (U j), .int .i64 (N j 2), .int .i64 (N j 3), .int .i64 (N j 4), .int .i64 (N j 5), .int .i64 (N j 6)] 82)).alloc (.cells #[.string ((pickD M D j (M j)).getD ⟨#[]⟩)] 86)).cell? ⟨w3.heap.size, 6, none⟩ = some (.int .i64 (M j)) := ((Ext.refl (w3.alloc (.cells #[.string (X j 0), .string (X j 1), .string (X j 2), .string (X j 3), .string (X j 4), .int .u8 (kd j), .int .i64 (M j), .int .i64 (U j), .int .i64 (N j 2), .int .i64 (N j 3), .int .i64 (N j 4), .int .i64 (N j 5), .int .i64 (N j 6)] 82))).alloc (.cells #[.string ((pickD M D j (M j)).getD ⟨#[]⟩)] 86)).cell (show (w3.alloc (.cells #[.string (X j 0), .string (X j 1), .string (X j 2), .string (X j 3), .string (X j 4), .int .u8 (kd j), .int .i64 (M j), .int .i64 (U j), .int .i64 (N j 2), .int .i64 (N j 3), .int .i64 (N j 4), .int .i64 (N j 5), .int .i64 (N j 6)] 82)).cell? ⟨w3.heap.size, 6, none⟩ = some (.int .i64 (M j)) by simp)
                have c7 : ((w3.alloc (.cells #[.string (X j 0), .string (X j 1), .string (X j 2), .string (X j 3), .string (X j 4), .int .u8 (kd j), .int .i64 (M j), .int .i64 (U j), .int .i64 (N j 2), .int .i64 (N j 3), .int .i64 (N j 4), .int .i64 (N j 5), .int .i64 (N j 6)] 82)).alloc (.cells #[.string ((pickD M D j (M j)).getD ⟨#[]⟩)] 86)).cell? ⟨w3.heap.size, 7, none⟩ = some (.int .i64 (U j)) := ((Ext.refl (w3.alloc (.cells #[.string (X j 0), .string (X j 1), .string (X j 2), .string (X j 3), .string (X j 4), .int .u8 (kd j), .int .i64 (M j), .int .i64 (U j), .int .i64 (N j 2), .int .i64 (N j 3), .int .i64 (N j 4), .int .i64 (N j 5), .int .i64 (N j 6)] 82))).alloc (.cells #[.string ((pickD M D j (M j)).getD ⟨#[]⟩)] 86)).cell (show (w3.alloc (.cells #[.string (X j 0), .string (X j 1), .string (X j 2), .string (X j 3), .string (X j 4), .int .u8 (kd j), .int .i64 (M j), .int .i64 (U j), .int .i64 (N j 2), .int .i64 (N j 3), .int .i64 (N j 4), .int .i64 (N j 5), .int .i64 (N j 6)] 82)).cell? ⟨w3.heap.size, 7, none⟩ = some (.int .i64 (U j)) by simp)
                have kl := World.block_lt_of_cell? _ _ c6
                have hne : w3.heap.size ≠ w.heap.size := by omega
                refine wp_region_detF (MapS Tryz.prog 3 w _ w.heap.size j (partsF M D j) (.int .i64 (M j)) (.agg #[.string (D j)])) false (by kernel_rfl) (by kernel_rfl) (MapS.start (hE4.alloc (.cells #[.string ((pickD M D j (M j)).getD ⟨#[]⟩)] 86)) (HM4.out.alloc (.cells #[.string ((pickD M D j (M j)).getD ⟨#[]⟩)] 86)) (Nat.le_refl _)) ?_
                repeat (first
                  | (refine detF_skip (by rfl) ?_; simp only [Act.put, List.setIfInBounds_toArray, List.set_cons_zero, List.set_cons_succ])
                  | (refine detF_plain (v := ?_) rfl (by rfl) (fun bq w9 hS => ?_) ?_; rotate_left; (focus (have hcl := hS.1; go_wp2_with fail; refine ⟨?_, rfl, hS⟩; (first | (simp only [List.getElem?_toArray, List.getElem?_cons_succ, List.getElem?_cons_zero]; rfl) | rfl))); simp only [Act.put, List.setIfInBounds_toArray, List.set_cons_zero, List.set_cons_succ])
                  | (refine detF_store (by rfl) (MapS.write (.tmp 67) (.tmp 69) (.tmp 73) rfl (by rfl) (by rfl) (by rfl) (int_keyed Tryz.underlying3) Tryz.underlying81 (by unfold maxLen; omega) hkey) ?_; simp only [Act.put]))
                refine detF_end ?_
                intro w8 hS
                have hm8 : MapF w8 Tryz.prog 3 w.heap.size (j + 1) (partsF M D (j + 1)) := by
                  have h : MapF w8 Tryz.prog 3 w.heap.size (if true = true then (if (partsF M D j (.int .i64 (M j))).isSome then j else j + 1) else j) (if true = true then setF (partsF M D j) (.int .i64 (M j)) (.agg #[.string (D j)]) else partsF M D j) := hS.2.2.1
                  rw [if_pos rfl, if_pos rfl, partsF_is, hs, if_neg (by decide), partsF_succ Hnew.out] at h
                  exact h
                have hE8 := hS.2.1
                clear hS c6 c7 kl
                go_wp2_with fail
                go_roundw
                case rel => exact ⟨j + 1, hlt, HZ2.out, by rw [hmu.out], by go_num, hm8, hE8⟩
                case measure => simp [intOf]; omega
        · have hkey := keyI (M j) (by rw [H0.out j hlt hEj]; decide) (by rw [H0.out j hlt hEj]; decide)
          have HRj : Hid (R = ⟨⟨#[]⟩, E j, (j : Int)⟩) := Lib.hid (by
            have hc := cdV_err (U := U) (M := M) hEj
            rw [HRe.out, joinT_hit hlt HZ.out (by rw [hc]; exact hEj), hc])
          rw [errOf_ne hEj] at cr
          have CRj := Lib.hid cr
          clear cr HR HUM Hr H0
          go_wp2_with fail
          refine (CRj.out _ hE).mono ?_; rintro x w3 ⟨rfl, hx3⟩
          have HM4 := Lib.hid ((hMp.ext hx3).alloc (.cells #[.string (X j 0), .string (X j 1), .string (X j 2), .string (X j 3), .string (X j 4), .int .u8 (kd j), .int .i64 (M j), .int .i64 (U j), .int .i64 (N j 2), .int .i64 (N j 3), .int .i64 (N j 4), .int .i64 (N j 5), .int .i64 (N j 6)] 82))
          have hE4 : Ext w (w3.alloc (.cells #[.string (X j 0), .string (X j 1), .string (X j 2), .string (X j 3), .string (X j 4), .int .u8 (kd j), .int .i64 (M j), .int .i64 (U j), .int .i64 (N j 2), .int .i64 (N j 3), .int .i64 (N j 4), .int .i64 (N j 5), .int .i64 (N j 6)] 82)) := (hE.trans hx3).alloc _
          clear hMp
          have CT := Lib.hid (fun w (hg : HasHandle w) => tell_errno (E j) w hg)
          go_wp2_with (refine wpList_lookupF_ok _ rfl (.tmp 47) (.tmp 49) 81 rfl 3 86 (int_keyed Tryz.underlying3) Tryz.underlying81 (z := .agg #[.string ⟨#[]⟩]) (by first | exact Tryz.zeroValue86 _ | kernel_rfl | rfl) w.heap.size j (partsF M D j) rfl HM4.out (.int .i64 (M j)) (.int .i64 (M j)) rfl hkey ?_; rw [partsF_g, partsF_is])
          refine (CT.out _ (hg.ext (hE4.alloc _))).mono ?_; rintro x w5 ⟨rfl, hx5⟩
          go_wp2_with fail
          go_ret2
          exact ⟨_, by rw [HRj.out]; rfl, .inr ⟨_, rfl, by rw [HRj.out]; exact isAt_made w5 _ _⟩, ((hE4.alloc _).trans hx5).alloc _⟩
      · obtain rfl : j = n := by omega
        have HMn := Lib.hid hMp
        have hj0 : 0 < j := by omega
        rw [manyV_pos hj0]
        clear hMp HR HUM Hr H0 Hat
        by_cases hu : (j : Int) = U 0
        · have HRj : Hid (R = ⟨catF (pickB M D j) ⟨#[]⟩ j, 0, -1⟩) := Lib.hid (by
            have : (U 0).toNat = j := by omega
            rw [HRe.out, joinT_good hj0 HZ.out hu, this])
          rw [← hu]
          have q : ((j : Int) != (j : Int)) = false := by simp
          clear hu
          go_wp2_with (refine wpList_lenF _ rfl (.tmp 75) 81 rfl 3 86 Tryz.underlying81 w.heap.size j (partsF M D j) rfl HMn.out ?_)
          go_loopw [13, 81] (fun o i wq => ∃ k : Nat, k ≤ j ∧ o = .string (catF (pickB M D j) ⟨#[]⟩ k) ∧ i = .int .i64 (k : Int) ∧ MapF wq Tryz.prog 3 w.heap.size j (partsF M D j) ∧ Ext w wq) (fun _ i _ => j - (intOf i).toNat)
          case atStart => exact ⟨0, Nat.zero_le _, rfl, rfl, HMn.out, hE⟩
          case round =>
            obtain ⟨k, hk, rfl, rfl, hMk, hEk⟩ := hrel
            have HMk := Lib.hid hMk
            clear hMk
            have hzk : (catF (pickB M D j) ⟨#[]⟩ k).size ≤ 1200000 := by
              have h1 := hcz.out k hk
              have h2 : k * 40000 ≤ 30 * 40000 := Nat.mul_le_mul (by omega) (Nat.le_refl _)
              omega
            by_cases hlk : k < j
            · have hkey := keyI (k : Int) (by omega) (by omega)
              have hpk := hpz.out k
              have hst : Hid (catF (pickB M D j) ⟨#[]⟩ (k + 1) = catF (pickB M D j) ⟨#[]⟩ k ++ pickB M D j k) := Lib.hid rfl
              go_wp2_with (refine wpList_lookupF _ rfl (.tmp 85) (.tmp 86) 81 rfl 3 86 (int_keyed Tryz.underlying3) Tryz.underlying81 (z := .agg #[.string ⟨#[]⟩]) (by first | exact Tryz.zeroValue86 _ | kernel_rfl | rfl) w.heap.size j (partsF M D j) rfl HMk.out (.int .i64 (k : Int)) (.int .i64 (k : Int)) rfl hkey ?_; rw [partsF_get])
              go_roundw
              case rel => exact ⟨k + 1, hlk, by rw [hst.out], by go_num, HMk.out, hEk⟩
              case measure => simp [intOf]; omega
            · obtain rfl : k = j := by omega
              generalize catF (pickB M D k) ⟨#[]⟩ k = C at *
              go_wp2_with fail
              go_ret2
              exact ⟨_, by rw [HRj.out]; rfl, .inl ⟨by rw [HRj.out], by rw [HRj.out]; rfl⟩, hEk⟩
        · have HRj : Hid (R = ⟨⟨#[]⟩, 7, -1⟩) := Lib.hid (by rw [HRe.out, joinT_miss hj0 HZ.out hu])
          have q : ((j : Int) != U 0) = true := by simpa using hu
          clear hu
          go_wp2_with (refine wpList_lenF _ rfl (.tmp 75) 81 rfl 3 86 Tryz.underlying81 w.heap.size j (partsF M D j) rfl HMn.out ?_)
          go_ret2
          exact ⟨_, by rw [HRj.out]; rfl, .inl ⟨by rw [HRj.out], by rw [HRj.out]; rfl⟩, hE⟩
end Go.Proofs.YtiiaoagobjgkiaaGreatDoor
