/-
  pax.Merge: the map of last values, and the range over it. No conditions but bounds.
-/
import Derived.RangeFuncFrom
import Derived.RangeFuncBox
import Derived.RangeFuncOne
import Derived.RangeFuncLeaves
import Derived.Shelf.Abstract
import Derived.Shelf.AbstractIn
import Derived.WalkKit
import Derived.OwnWalkIn
import Derived.TacticsInMore
import Derived.RegionIn
import Derived.LoopNIn
import Derived.LoopIn
import Derived.Maps.OwnIn
import Derived.Maps.Views
import Derived.Sort.MapsRangeIn
import Derived.Sort.KeysCollected
import Derived.Test.YtnnoeckmkjhdbaaPrs
import Derived.Test.YtnnoeckmkjhdbaaMgV
namespace Go.Proofs.Ytnnoeckmkjhdbaa
open Go.RowKit Go.WideShapes Go.Shelf Go.Maps Go.Sort
attribute [local go_sem] Oper.semAt_some

abbrev PL := List UInt8 × List UInt8
def toB (l : List UInt8) : ByteArray := ⟨l.toArray⟩
theorem toB_inj {a b : List UInt8} (h : toB a = toB b) : a = b := by
  have := congrArg (fun s : ByteArray => s.data.toList) h
  simpa [toB] using this
theorem toB_self (s : ByteArray) : toB s.data.toList = s := by
  obtain ⟨⟨l⟩⟩ := s
  rfl
theorem encStr_toB (l : List UInt8) : encStr l = .string (toB l) := rfl
def encsP (p : PL) : Array Value := #[.string (toB p.1), .string (toB p.2)]
def ValP (D0 : DataW Unit) (p : PL) : Prop := ∀ zd, D0.atKey (.string p.1) zd = .lit (.string p.2)
def AllP (D0 : DataW Unit) (ps : List PL) : Prop := (ps.map (·.1)).Nodup ∧ (∀ x, x ∈ ps.map (·.1) ↔ has D0 (.string x) = true) ∧ ∀ p ∈ ps, ValP D0 p
theorem elemS {v : Value} {z : DataW Unit × List MemPlace} (h : plainElem Try.prog 9 v = some z) : ∃ a : List UInt8, v = .string (toB a) ∧ z = (.lit (.string a), []) := by
  have he := Try.underlying9
  cases v <;> simp [plainElem, he] at h
  rename_i s
  obtain ⟨hs, rfl⟩ := h
  exact ⟨s.data.toList, by rw [toB_self], rfl⟩
theorem keyS {key : Value} {kl : Lit} (h : keyOf Try.prog 9 key = some kl) : ∃ x : List UInt8, key = .string (toB x) ∧ kl = .string x := by
  obtain ⟨x, h1, h2, _⟩ := Maps.keyOf_str Try.underlying9 h
  exact ⟨x, h1, h2⟩
theorem mkElem (s : ByteArray) (h : s.size ≤ maxLen) : plainElem (H := Unit) Try.prog 9 (.string s) = some (.lit (.string s.data.toList), []) := by
  have he := Try.underlying9
  simp [plainElem, he]
  exact h
theorem mkKey (s : ByteArray) (h : s.size ≤ maxLen) : keyOf Try.prog 9 (.string s) = some (.string s.data.toList) := by
  have he := Try.underlying9
  simp [keyOf, he, mapKey]
  exact h

/-- Block b is the map of the last values. -/
def MapS (W : World) (b : Nat) (all : List Pr) : Prop := ∃ (c : Nat) (D : DataW Unit), W.ownsMap Try.prog 9 (plainElem Try.prog 9) b c D ∧ Tidy D ∧ c ≤ all.length ∧
  (∀ k : List UInt8, has D (.string k) = (lastB all (toB k)).isSome) ∧ ∀ (k : List UInt8) (v : ByteArray), lastB all (toB k) = some v → ValP D (k, v.data.toList)
theorem mapS_made (W : World) : MapS (W.alloc (.map #[] 0)) W.heap.size [] :=
  ⟨0, .map [], World.ownsMap_made W _ _ _, tidy_empty, Nat.le_refl _, fun _ => rfl, fun _ _ h => by cases h⟩
theorem MapS.kept {W W' : World} {b : Nat} {all : List Pr} {row : Option Nat} (h : MapS W b all) (hg : W.grownBy W' row) (hne : some b ≠ row) : MapS W' b all := by
  obtain ⟨c, D, h1, h2⟩ := h
  exact ⟨c, D, h1.kept hg hne, h2⟩
theorem MapS.alloc {W : World} {b : Nat} {all : List Pr} (h : MapS W b all) (o : Obj) : MapS (W.alloc o) b all := h.kept (World.grownBy_alloc W o none) (by simp)
theorem MapS.lt {W : World} {b : Nat} {all : List Pr} (h : MapS W b all) : b < W.heap.size := by
  obtain ⟨c, D, h1, _⟩ := h
  exact h1.lt
theorem mapS_put {W : World} {b c : Nat} {all : List Pr} {D : DataW Unit} (k v : ByteArray) (hT : Tidy D) (hc : c ≤ all.length)
    (hh : ∀ k : List UInt8, has D (.string k) = (lastB all (toB k)).isSome) (hv : ∀ (k : List UInt8) (v : ByteArray), lastB all (toB k) = some v → ValP D (k, v.data.toList))
    (h : W.ownsMap Try.prog 9 (plainElem Try.prog 9) b (c + 1) (D.put (.string k.data.toList) (.lit (.string v.data.toList)))) : MapS W b (all ++ [(k, v)]) := by
  have hk : WideAt.IsKeyLit (.string k.data.toList) := trivial
  refine ⟨c + 1, _, h, hT.put hk _, by rw [List.length_append]; exact Nat.succ_le_succ hc, fun x => ?_, fun x y hx z => ?_⟩
  · rw [lastB_snoc]
    by_cases e : k = toB x
    · have e2 : x = k.data.toList := by rw [e]; simp [toB]
      rw [if_pos e, e2]
      exact has_put_same hT.isMap hk _
    · rw [if_neg e, has_put_other (fun h => e (by injection h with h; rw [h, toB_self])), hh]
  · rw [lastB_snoc] at hx
    by_cases e : k = toB x
    · rw [if_pos e] at hx
      have e2 : x = k.data.toList := by rw [e]; simp [toB]
      injection hx with hx
      rw [e2, ← hx]
      exact atKey_put_same hT.isMap hk _ _
    · rw [if_neg e] at hx
      show (D.put _ _).atKey (.string x) z = _
      rw [atKey_put_other (fun h => e (by injection h with h; rw [h, toB_self]))]
      exact hv x y hx z
theorem size_le {W : World} {b c : Nat} {D : DataW Unit} (h : W.ownsMap Try.prog 9 (plainElem Try.prog 9) b c D) : Maps.size D ≤ c := by
  obtain ⟨es, clock, hb, F, hs, hD⟩ := h
  rw [hD]
  simpa [Maps.size, length_sorted] using hs
/-- What has come of the map, all of it. -/
theorem allP_mem {W : World} {b : Nat} {all : List Pr} {c : Nat} {D : DataW Unit} (hh : ∀ k : List UInt8, has D (.string k) = (lastB all (toB k)).isSome) (hv : ∀ (k : List UInt8) (v : ByteArray), lastB all (toB k) = some v → ValP D (k, v.data.toList))
    {ps : List PL} (h : AllP D ps) (p : Pr) : p ∈ ps.map (fun q => (toB q.1, toB q.2)) ↔ lastB all p.1 = some p.2 := by
  obtain ⟨_, hm, hp⟩ := h
  constructor
  · intro h
    obtain ⟨q, hq, rfl⟩ := List.mem_map.1 h
    have h1 := (hm q.1).1 (List.mem_map.2 ⟨q, hq, rfl⟩)
    rw [hh] at h1
    obtain ⟨v, h2⟩ := Option.isSome_iff_exists.1 h1
    have h3 := hv q.1 v h2 (.lit (.string []))
    have h4 := hp q hq (.lit (.string []))
    rw [h4] at h3
    have h5 : q.2 = v.data.toList := by simpa using h3
    show lastB all (toB q.1) = some (toB q.2)
    rw [h2, h5, toB_self]
  · intro h
    have h1 : has D (.string p.1.data.toList) = true := by rw [hh, toB_self, h]; rfl
    obtain ⟨q, hq, e⟩ := List.mem_map.1 ((hm p.1.data.toList).2 h1)
    have h3 := hv p.1.data.toList p.2 (by rw [toB_self]; exact h) (.lit (.string []))
    have h4 := hp q hq (.lit (.string []))
    rw [e] at h4
    rw [h4] at h3
    have h5 : q.2 = p.2.data.toList := by simpa using h3
    exact List.mem_map.2 ⟨q, hq, Prod.ext (by show toB q.1 = p.1; rw [e, toB_self]) (by show toB q.2 = p.2; rw [h5, toB_self])⟩

set_option maxRecDepth 100000 in
set_option maxHeartbeats 1600000 in
/-- maps.All's iterator, for every loop body. -/
theorem all1_mg (F : Fence) (n : Nat) (h8 : F.fn 14) (hro : F.round = none) (hn : 1 ≤ n) (l Bm b nn : Nat) (D0 : DataW Unit) (J Jx : List PL → World → Prop)
    (hY : ∀ pre x W, J pre W → pre.length < Maps.size D0 → YieldAt F (n - 1) Try.prog l (encsP x) W fun e W' =>
      (e = .returned (.bool true) ∧ J (pre ++ [x]) W' ∧ KeepsWalks W W') ∨ (e = .returned (.bool false) ∧ Jx (pre ++ [x]) W'))
    (W : World) (hJ : AbidesFrom W.heap.size J) (hm : W.cell? ⟨Bm, 0, none⟩ = some (.map (some b))) (hown : W.ownsMap Try.prog 9 (plainElem Try.prog 9) b nn D0) (h0 : J [] W) :
    CallsIn F n Try.prog 14 #[.func (.yield l) #[] #[], .pointer (some ⟨Bm, 0, none⟩)] W fun e W' => (∃ v, e = .returned v) ∧
      ((∃ ps, AllP D0 ps ∧ J ps W') ∨ (∃ pre, True ∧ Jx pre W')) := by
  refine callsIn_of_wp Try.func14 rfl h8 ?_ hro
  simp only [Try.ntmps14, List.size_toArray, List.length_cons, List.length_nil, Nat.reduceAdd, Nat.reduceSub, Array.replicate_succ, Array.replicate_zero, List.push_toArray, List.append_toArray, List.nil_append, List.cons_append]
  gi_wp2_with (first
    | (gi_at_range; refine wpListIn_range_own _ rfl _ 30 rfl 9 9 (string_keyed Try.underlying9) Try.underlying30 _ b nn _ rfl hown ?_; intro w0 hrg0 hg0 hs0)
    | gi_in)
  go_frame
  gi_loopw [3, 4] (fun _ _ wr => ∃ (left : Lit → Bool) (cnt : Nat) (ps : List PL), wr.ranges Try.prog 9 (plainElem Try.prog 9) b W.heap.size nn D0 left cnt ∧ ps.length + cnt ≤ Maps.size D0 ∧ Collected D0 left (ps.map (·.1)) ∧ (∀ p ∈ ps, ValP D0 p) ∧ J ps wr)
    (fun _ _ wr => wr.rangeLeft b W.heap.size)
  case atStart =>
    exact ⟨_, _, [], hrg0, by simp, Collected.start D0, by simp, hJ [] W w0 none h0 hg0 (fun r e => by cases e)⟩
  case round =>
    obtain ⟨left, cnt, ps, hrg, hcs, hC, hV, hJs⟩ := hrel
    gi_wp2_with (first
      | (gi_at_next; refine wpListIn_next_ranges _ rfl _ rfl 9 (string_keyed Try.underlying9) (plainElem Try.prog 9) encStr encStr (fun key kl hk => by obtain ⟨x, hx, _⟩ := keyS hk; exact ⟨x, hx⟩) (fun v y hv => by obtain ⟨c, rfl, _⟩ := elemS hv; exact ⟨c, rfl⟩) b W.heap.size nn _ _ _ rfl hrg ?_ ?_)
      | gi_in)
    · intro hc0 hl0
      gi_wp2
      go_end0
      exact ⟨⟨_, rfl⟩, .inl ⟨ps, ⟨hC.1, fun x => by rw [hC.2 x, hl0]; simp, hV⟩, hJs⟩⟩
    · intro x c kl yd yp w2 cnt2 hkey hlk hv hat hrg2 hlt hg2 hs2 hen
      obtain ⟨x', ex, rfl⟩ := keyS hkey
      obtain rfl : x = x' := encStr_inj ex
      obtain ⟨c', ec, ez⟩ := elemS hv
      obtain rfl : c = c' := encStr_inj ec
      obtain rfl : yd = .lit (.string c) := (Prod.mk.inj ez).1
      have hJ2 : J ps w2 := hJ ps wr w2 (some W.heap.size) hJs hg2 (fun r e => by cases e; exact ⟨Nat.le_refl _, hrg.iter_walk⟩)
      obtain ⟨fn, tmps, assign, body, hy, hR⟩ := hY ps (x, c) w2 hJ2 (by omega)
      dsimp only [encsP] at hy
      simp only [encStr_toB] at hen
      clear hs2
      gi_wp2
      refine hR.mono ?_
      have hC2 : Collected D0 (fun z => left z && !z.sameKey (.string x)) ((ps ++ [(x, c)]).map (·.1)) := by simpa using hC.step hlk hat
      have hV2 : ∀ p ∈ ps ++ [(x, c)], ValP D0 p := fun p hp => (List.mem_append.1 hp).elim (hV p) (fun e => by simp at e; subst e; exact hat)
      rintro e W3 (⟨rfl, hJ3, hk3⟩ | ⟨rfl, hJx3⟩)
      · gi_wp2
        have hrg3 := hrg2.of_walks hk3
        go_roundw
        case rel => exact ⟨_, cnt2, ps ++ [(x, c)], hrg3, by simp; omega, hC2, hV2, hJ3⟩
        case measure => rw [hrg3.left_eq, hrg.left_eq]; exact hlt
      · gi_wp2
        refine bodyPost_ret (results_none rfl _ _ _) rfl ?_
        exact ⟨⟨_, rfl⟩, .inr ⟨ps ++ [(x, c)], trivial, hJx3⟩⟩
theorem all_stopsM (F : Fence) (n : Nat) (h8 : F.fn 14) (hro : F.round = none) (hn : 1 ≤ n) (Bm b nn : Nat) (D0 : DataW Unit) (w : World) (hBm : Bm < w.heap.size)
    (hm : w.cell? ⟨Bm, 0, none⟩ = some (.map (some b))) (hown : w.ownsMap Try.prog 9 (plainElem Try.prog 9) b nn D0) :
    SeqStopsK F n Try.prog 14 #[.pointer (some ⟨Bm, 0, none⟩)] encsP KeepsWalks (AllP D0) (fun _ => True) (Maps.size D0) w := fun l J Jx W hW hJ _ hY h0 => by
  have hown' : W.ownsMap Try.prog 9 (plainElem Try.prog 9) b nn D0 := by
    have hbl := hown.lt
    obtain ⟨es, clock, hb, Ft, hs, hD⟩ := hown
    exact ⟨es, clock, (hW.block b hbl).trans hb, Ft, hs, hD⟩
  exact all1_mg F n h8 hro hn l Bm b nn D0 J Jx hY W hJ ((hW.cell (p := ⟨Bm, 0, none⟩) hBm).trans hm) hown' h0
/-- maps.All hands back the iterator. -/
theorem mapsAll_any (mb : Option Nat) (w : World) : Calls Try.prog 8 #[.map mb] w fun e w' => e = .returned (.func (.func 14) #[] #[.pointer (some ⟨w.heap.size, 0, none⟩)]) ∧ w' = w.alloc (.cells #[.map mb] 30) := by
  go_enter Try.func8, Try.ntmps8
  go_wp2_with fail
  go_ret
  exact ⟨rfl, rfl⟩
end Go.Proofs.Ytnnoeckmkjhdbaa
