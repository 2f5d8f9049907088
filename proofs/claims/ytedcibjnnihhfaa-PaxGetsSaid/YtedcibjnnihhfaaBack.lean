/-
  slices.Backward over pairs: the iterator's contract.
-/
import Derived.RangeFuncNested
import Derived.RangeFuncBound
import Derived.RangeFuncCalls
import Derived.RangeFuncLeaves
import Derived.Shelf.Abstract
import Derived.Shelf.RegionOpen
import Derived.WalkKit
import Derived.OwnWalkIn
import Derived.TacticsInMore
import Derived.LoopNIn
import Derived.LoopIn
import Derived.Test.YtedcibjnnihhfaaPairArg
import Derived.Test.YtedcibjnnihhfaaKit
namespace Go.Proofs.Ytedcibjnnihhfaa
open Go.RowKit Go.WideShapes Go.Shelf
attribute [local go_sem] Oper.semAt_some

/-- What has come when the pairs from the last one down to number m are over. -/
def backP (K X : Nat → ByteArray) (n m : Nat) : List (Nat × ByteArray × ByteArray) := (((List.range n).drop m).reverse).map fun i => (i, K i, X i)
theorem backP_step (K X : Nat → ByteArray) {n q : Nat} (h : q < n) : backP K X n q = backP K X n (q + 1) ++ [(q, K q, X q)] := by
  unfold backP
  rw [List.drop_eq_getElem_cons (i := q) (by simpa using h)]
  simp
theorem back_prefix (K X : Nat → ByteArray) (n q : Nat) (h : q < n) : backP K X n (q + 1) ++ [(q, K q, X q)] <+: backP K X n 0 := by
  rw [← backP_step K X h]
  unfold backP
  refine List.IsPrefix.map _ (List.reverse_prefix.2 ?_)
  rw [List.drop_zero]
  exact List.drop_suffix _ _
theorem backP_all (K X : Nat → ByteArray) (n : Nat) : backP K X n n = [] := by
  unfold backP
  rw [List.drop_of_length_le (by simp)]
  rfl
theorem backP_len (K X : Nat → ByteArray) (n m : Nat) : (backP K X n m).length = n - m := by
  unfold backP
  simp
/-- Index and pair. -/
def encP (x : Nat × ByteArray × ByteArray) : Array Value := #[.int .i64 (x.1 : Int), .agg #[.string x.2.1, .string x.2.2]]

set_option maxHeartbeats 1600000 in
set_option maxRecDepth 100000 in
theorem back1_in (F : Fence) (d : Nat) (hf : F.fn 38) (hro : F.round = none) (hd : 1 ≤ d) (l Bn n₀ : Nat) (K X : Nat → ByteArray) (n : Nat) (hn9 : n ≤ 4398046511100) (oa : Option Addr) (cap : Nat)
    (J Jx : List (Nat × ByteArray × ByteArray) → World → Prop)
    (hY : ∀ pre x W, J pre W → pre.length < n → YieldAt F (d - 1) Try.prog l (encP x) W fun e W' =>
      (e = .returned (.bool true) ∧ J (pre ++ [x]) W' ∧ Below n₀ W W') ∨ (e = .returned (.bool false) ∧ Jx (pre ++ [x]) W'))
    (W : World) (hBl : Bn < n₀) (hBn : W.cell? ⟨Bn, 0, none⟩ = some (.slice oa n cap))
    (hL : ∀ k, k < n → ∃ b off, oa = some ⟨b, off, none⟩ ∧ b < n₀ ∧ W.cell? ⟨b, off + k * 2, none⟩ = some (.string (K k)) ∧ W.cell? ⟨b, off + k * 2 + 1, none⟩ = some (.string (X k))) (h0 : J [] W) :
    CallsIn F d Try.prog 38 #[.func (.yield l) #[] #[], .pointer (some ⟨Bn, 0, none⟩)] W fun e W' => (∃ v, e = .returned v) ∧
      ((∃ ys, ys = backP K X n 0 ∧ J ys W') ∨ (∃ pre, pre <+: backP K X n 0 ∧ Jx pre W')) := by
  refine callsIn_of_wp Try.func38 rfl hf ?_ hro
  simp only [Try.ntmps38, List.size_toArray, List.length_cons, List.length_nil, Nat.reduceAdd, Nat.reduceSub, Array.replicate_succ, Array.replicate_zero, List.push_toArray, List.append_toArray, List.nil_append, List.cons_append]
  gi_wp2
  gi_loopw [3] (fun i wr => ∃ m : Nat, m ≤ n ∧ i = .int .i64 ((m : Int) - 1) ∧ J (backP K X n m) wr ∧ Below n₀ W wr)
    (fun i _ => (intOf i + 1).toNat)
  case atStart => exact ⟨n, Nat.le_refl _, rfl, by rw [backP_all]; exact h0, Below.refl _ _⟩
  case round =>
    obtain ⟨m, hm, rfl, hJs, hB⟩ := hrel
    have hc := (hB.cell (p := ⟨Bn, 0, none⟩) hBl).trans hBn
    cases m with
    | zero =>
      gi_wp2
      go_end0
      exact ⟨⟨_, rfl⟩, .inl ⟨_, rfl, hJs⟩⟩
    | succ q =>
      obtain ⟨b, off, rfl, hb, c0, c1⟩ := hL q (by omega)
      have g0 := (hB.cell (p := ⟨b, off + q * 2, none⟩) hb).trans c0
      have g1 := (hB.cell (p := ⟨b, off + q * 2 + 1, none⟩) hb).trans c1
      rw [show ((q + 1 : Nat) : Int) - 1 = (q : Int) by omega]
      have hst := Lib.hid (backP_step K X (show q < n by omega))
      obtain ⟨fn, tmps, assign, body, hy, hR⟩ := hY (backP K X n (q + 1)) (q, K q, X q) wr hJs (by rw [backP_len]; omega)
      dsimp only [encP] at hy hR
      gi_wp2
      refine hR.mono ?_
      rintro e W3 (⟨rfl, hJ3, hk3⟩ | ⟨rfl, hJx3⟩)
      · gi_wp2
        go_roundw
        case rel => exact ⟨q, by omega, by go_num, by rw [hst.out]; exact hJ3, hB.trans hk3⟩
        case measure => simp [intOf]
      · gi_wp2
        refine bodyPost_ret (results_none rfl _ _ _) rfl ?_
        exact ⟨⟨_, rfl⟩, .inr ⟨_, back_prefix K X n q (by omega), hJx3⟩⟩

/-- slices.Backward hands back the iterator. -/
theorem back_any (a : Option Addr) (n c : Nat) (w : World) : Calls Try.prog 19 #[.slice a n c] w fun e w' => e = .returned (.func (.func 38) #[] #[.pointer (some ⟨w.heap.size, 0, none⟩)]) ∧ w' = w.alloc (.cells #[.slice a n c] 22) := by
  go_enter Try.func19, Try.ntmps19
  go_wp2_with fail
  go_ret
  exact ⟨rfl, rfl⟩
end Go.Proofs.Ytedcibjnnihhfaa
