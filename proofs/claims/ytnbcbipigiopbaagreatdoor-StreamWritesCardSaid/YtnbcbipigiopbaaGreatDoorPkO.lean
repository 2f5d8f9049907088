/-
  A region that draws its order, whose head holds calls and loads, makes one block, and stores into it while other reads may still come: the law of text DetA with one operation more, the store (it alone ready in its turn; it turns the flag). No conditions.
-/
import Derived.Test.YtnbcbipigiopbaaGreatDoorPkJ
import Derived.RangeFuncBox
import Derived.Laws.Tables
import Derived.Laws.Rows
import Derived.Laws.CopyOwn
import Derived.Deep.OwnRows
namespace Go.Proofs.YtnbcbipigiopbaaGreatDoor
open Go.RowKit

section
variable {P : Program} {ops : Array Oper} {S : Bool → Option Value → World → Prop} {md : Region.Mode}

/-- In state a, in every world that meets S b p, operation o leaves v, and S true p holds behind it. -/
def StoresB (P : Program) (ops : Array Oper) (S : Bool → Option Value → World → Prop) (p : Option Value) (o : Oper) (v : Value) (a : Act) : Prop :=
  Region.wanted o (yielded ops a.tmps) = true ∧ ∀ b w, S b p w → leaves P (S true p) v ((execOp a.eval o).run P w)
theorem StoresB.of_same {p : Option Value} {o : Oper} {v : Value} {a a' : Act} (hy : StoresB P ops S p o v a) (he : execOp a'.eval o = execOp a.eval o)
    (hw : Region.wanted o (yielded ops a'.tmps) = Region.wanted o (yielded ops a.tmps)) : StoresB P ops S p o v a' := by
  unfold StoresB at *
  rw [he, hw]
  exact hy

theorem settles_of {o : Oper} {a : Act} {d : Tmp} {v : Value} (hd : o.dst = some d) (hw : Region.wanted o (yielded ops a.tmps) = true) (h : ∀ b p w, S b p w → wpList P ops (detPost d v (S b p) a.defers) [o] a w) : SettlesT P ops S false o v a := by
  refine .inl ⟨hw, fun b p w hS => ?_⟩
  rw [Bool.or_false]
  have hl := h b p w hS
  unfold wpList at hl
  rw [if_pos hw] at hl
  rcases hl with hl | ⟨_, hl⟩
  · unfold Oper.wp at hl
    generalize (execOp a.eval o).run P w = r at *
    cases r with
    | ok n w' =>
      cases n <;> simp only [leaves, Oper.upon, hd] at hl ⊢
      case value u => exact ⟨put_at hl.1, hl.2.2⟩
      case skip => exact ⟨put_at hl.1, hl.2.2⟩
      case defer x =>
        have := congrArg List.length hl.2.1
        simp [Act.put] at this
      case enter f args =>
        refine hl.mono fun e w'' he => ?_
        cases e with
        | returned u => exact ⟨by rw [put_at he.1], he.2.2⟩
        | panicked c => exact he.elim
        | outgrown => exact (detPost_out he).elim
      case row row args => exact hl.mono fun u w'' he => ⟨put_at he.1, he.2.2⟩
    | halt x w' =>
      cases x <;> simp only [leaves, Oper.upon] at hl ⊢
      case panic u => exact hl
  · exact (detPost_out hl).elim

/-- The head in whatever order. -/
def wpAnyB (P : Program) (md : Region.Mode) (ops : Array Oper) (S : Bool → Option Value → World → Prop) (n : Nat) (L : Array Bool → Bool → Option Value → Act → Prop) : Nat → Array Bool → Bool → Option Value → Act → Prop
  | 0, listed, b, p, a => L listed b p a
  | f + 1, listed, b, p, a => Region.ready md ops listed ≠ [] ∧ ∀ i ∈ Region.ready md ops listed, i < n ∧
      ((∃ o v h, ops[i]? = some o ∧ SettlesT P ops S h o v a ∧ wpAnyB P md ops S n L f (listed.setIfInBounds i true) (b || h) p (a.put o.dst v)) ∨
       (∃ o, ops[i]? = some o ∧ p = none ∧ MakesT P ops S o a ∧ ∀ u, wpAnyB P md ops S n L f (listed.setIfInBounds i true) b (some u) (a.put o.dst u)) ∨
       (∃ o v, ops[i]? = some o ∧ StoresB P ops S p o v a ∧ wpAnyB P md ops S n L f (listed.setIfInBounds i true) true p (a.put o.dst v)))

theorem wpAny_of_headB {n g : Nat} {L : Array Bool → Bool → Option Value → Act → Prop} {Q : Exit → Act → World → Prop} (hL : ∀ listed b p a, L listed b p a → ∀ w, S b p w → wpAny P md ops Q g listed a w) :
    ∀ (f : Nat) (listed : Array Bool) (b : Bool) (p : Option Value) (a : Act), wpAnyB P md ops S n L f listed b p a → ∀ w, S b p w → wpAny P md ops Q (f + g) listed a w
  | 0, listed, b, p, a, h, w, hS => by rw [Nat.zero_add]; exact hL _ _ _ _ h w hS
  | f + 1, listed, b, p, a, h, w, hS => by
    rw [show f + 1 + g = (f + g) + 1 by omega]
    refine ⟨fun h0 => absurd h0 h.1, fun i hi => ?_⟩
    rcases (h.2 i hi).2 with ⟨o, v, t, ho, hy, hn⟩ | ⟨o, ho, rfl, hm, hn⟩ | ⟨o, v, ho, hy, hn⟩
    · exact hy.wpOp ho hS fun w' hS' => wpAny_of_headB hL f _ _ _ _ hn w' hS'
    · obtain ⟨u, hu⟩ := hm.2 b w hS
      exact wpOp_leaves ho hm.1 hu fun w' hS' => wpAny_of_headB hL f _ _ _ _ (hn u) w' hS'
    · exact wpOp_leaves ho hy.1 (hy.2 b w hS) fun w' hS' => wpAny_of_headB hL f _ _ _ _ hn w' hS'

theorem wpAnyB_first {n i : Nat} {oi : Oper} {v : Value} {h : Bool} {L : Array Bool → Bool → Option Value → Act → Prop} (hi : ops[i]? = some oi) (hsel : ∀ (j : Nat) (o : Oper) cs b, ops[j]? = some o → o.op ≠ .select cs b)
    (hs : Region.sinkB md ops n = true) (hc : Region.chainB md ops n = true) (hn : n < ops.size) (hin : i < n)
    (hdone : ∀ listed b p a, L listed b p a → ∀ j ∈ Region.ready md ops listed, n ≤ j) :
    ∀ (f : Nat) (listed : Array Bool) (b : Bool) (p : Option Value) (a : Act), HeadInv md ops n listed →
      (∀ j oj, ops[j]? = some oj → j ≠ i → listed.getD j true = false → (∀ e ∈ oj.after, Region.binds md e = true → e.on ≠ i) → oi.apart ops oj = true) →
      i ∈ Region.ready md ops listed → SettlesT P ops S h oi v a →
      wpAnyB P md ops S n L f (listed.setIfInBounds i true) (b || h) p (a.put oi.dst v) → wpAnyB P md ops S n L (f + 1) listed b p a := by
  intro f
  induction f with
  | zero =>
    intro listed b p a inv _ hr hy H
    have hun := (mem_ready.1 hr).1
    refine ⟨fun h => (by rw [h] at hr; cases hr), fun j hj => ?_⟩
    have hjn : j < n := by
      rcases Nat.lt_or_ge j n with h | h
      · exact h
      · exact absurd hj (tail_waits hs hc hn inv _ i rfl hin hun j h)
    refine ⟨hjn, ?_⟩
    by_cases hji : j = i
    · subst hji; exact .inl ⟨oi, v, h, hi, hy, H⟩
    · have := hdone _ _ _ _ H j (ready_mono hj hji)
      omega
  | succ f ih =>
    intro listed b p a inv hfree hr hy H
    have hun := (mem_ready.1 hr).1
    refine ⟨fun h => (by rw [h] at hr; cases hr), fun j hj => ?_⟩
    have hjn : j < n := by
      rcases Nat.lt_or_ge j n with h | h
      · exact h
      · exact absurd hj (tail_waits hs hc hn inv _ i rfl hin hun j h)
    refine ⟨hjn, ?_⟩
    by_cases hji : j = i
    · subst hji; exact .inl ⟨oi, v, h, hi, hy, H⟩
    · obtain ⟨hjun, oj, hoj, hall⟩ := mem_ready.1 hj
      have hnot : ∀ e ∈ oj.after, Region.binds md e = true → e.on ≠ i := fun e he hb heq => by
        have h1 := hall e he hb
        rw [heq, getD_both hun] at h1
        cases h1
      obtain ⟨h1, h2, h3⟩ := Oper.apart_spec (hfree j oj hoj hji hjun hnot)
      have hfree' : ∀ k ok, ops[k]? = some ok → k ≠ i → (listed.setIfInBounds j true).getD k true = false →
          (∀ e ∈ ok.after, Region.binds md e = true → e.on ≠ i) → oi.apart ops ok = true := fun k ok hk hki hun hno => by
        refine hfree k ok hk hki ?_ hno
        by_cases hjk : j = k
        · subst hjk; exact hjun
        · rw [getD_set_ne true hjk] at hun; exact hun
      have hsame : ∀ u, SettlesT P ops S h oi v (a.put oj.dst u) := fun u => hy.of_same (execOp_put oi (fun cs b => hsel i oi cs b hi) a oj.dst u h3) (wanted_put oi a oj.dst u h3)
      rcases (H.2 j (ready_mono hj hji)).2 with ⟨oj', u, t, hoj', hyj, hnx⟩ | ⟨oj', hoj', hp, hmj, hnx⟩ | ⟨oj', u, hoj', hyj, hnx⟩
      · obtain rfl : oj' = oj := Option.some.inj (hoj'.symm.trans hoj)
        have hyj' : SettlesT P ops S t oj' u a := hyj.of_same (execOp_put oj' (fun cs b => hsel j oj' cs b hoj) a oi.dst v h1).symm (wanted_put oj' a oi.dst v h1).symm
        refine .inl ⟨oj', u, t, hoj, hyj', ih (listed.setIfInBounds j true) _ _ _ (inv.set hj hjn) hfree' (ready_mono hr (Ne.symm hji)) (hsame u) ?_⟩
        rw [Array.setIfInBounds_comm _ _ hji, ← Act.put_comm a v u h2, Bool.or_assoc, Bool.or_comm t h, ← Bool.or_assoc]
        exact hnx
      · obtain rfl : oj' = oj := Option.some.inj (hoj'.symm.trans hoj)
        have hmj' : MakesT P ops S oj' a := hmj.of_same (execOp_put oj' (fun cs b => hsel j oj' cs b hoj) a oi.dst v h1).symm (wanted_put oj' a oi.dst v h1).symm
        refine .inr (.inl ⟨oj', hoj, hp, hmj', fun u => ih (listed.setIfInBounds j true) _ _ _ (inv.set hj hjn) hfree' (ready_mono hr (Ne.symm hji)) (hsame u) ?_⟩)
        rw [Array.setIfInBounds_comm _ _ hji, ← Act.put_comm a v u h2]
        exact hnx u
      · obtain rfl : oj' = oj := Option.some.inj (hoj'.symm.trans hoj)
        have hyj' : StoresB P ops S p oj' u a := hyj.of_same (execOp_put oj' (fun cs b => hsel j oj' cs b hoj) a oi.dst v h1).symm (wanted_put oj' a oi.dst v h1).symm
        refine .inr (.inr ⟨oj', u, hoj, hyj', ih (listed.setIfInBounds j true) _ _ _ (inv.set hj hjn) hfree' (ready_mono hr (Ne.symm hji)) (hsame u) ?_⟩)
        rw [Array.setIfInBounds_comm _ _ hji, ← Act.put_comm a v u h2, Bool.true_or]
        exact hnx

/-- The head in the order of the text, the operation ka (if there is one) when it alone is ready. -/
def lexHeadB (md : Region.Mode) (ops : Array Oper) (g ka ks : Nat) : Nat → Nat → Array Bool → Bool
  | 0, k, listed => Region.seqB md ops g k listed
  | f + 1, k, listed => (if k = ka ∨ k = ks then decide (Region.ready md ops listed = [k]) else ((Region.ready md ops listed).contains k && Region.free md ops listed k)) && lexHeadB md ops g ka ks f (k + 1) (listed.setIfInBounds k true)
def lexTailB (md : Region.Mode) (ops : Array Oper) (n ka ks : Nat) : Bool :=
  Region.noSelect ops && decide (n < ops.size) && Region.sinkB md ops n && Region.chainB md ops n && lexHeadB md ops (ops.size - n) ka ks n 0 (Array.replicate ops.size false)

def detGoB (P : Program) (ops : Array Oper) (S : Bool → Option Value → World → Prop) (ka ks : Nat) (K : Bool → Option Value → Act → Prop) : List Oper → Nat → Bool → Option Value → Act → Prop
  | [], _, b, p, a => K b p a
  | o :: os, k, b, p, a => (k ≠ ka ∧ k ≠ ks ∧ ∃ v h, SettlesT P ops S h o v a ∧ detGoB P ops S ka ks K os (k + 1) (b || h) p (a.put o.dst v)) ∨
      (k = ka ∧ p = none ∧ MakesT P ops S o a ∧ ∀ u, detGoB P ops S ka ks K os (k + 1) b (some u) (a.put o.dst u)) ∨
      (k = ks ∧ ∃ v, StoresB P ops S p o v a ∧ detGoB P ops S ka ks K os (k + 1) true p (a.put o.dst v))

theorem wpAnyB_lex {n g ka ks : Nat} {Lq : Bool → Option Value → Act → Prop} (hsel : Region.noSelect ops = true) (hs : Region.sinkB md ops n = true) (hc : Region.chainB md ops n = true) (hn : n < ops.size) :
    ∀ (l : List Oper) (k : Nat) (listed : Array Bool) (b : Bool) (p : Option Value) (a : Act), (∀ j, j < l.length → l[j]? = ops[k + j]?) → k + l.length = n → HeadInv md ops n listed →
    lexHeadB md ops g ka ks l.length k listed = true → detGoB P ops S ka ks Lq l k b p a →
    wpAnyB P md ops S n (fun listed' b' p' a' => Region.seqB md ops g n listed' = true ∧ Lq b' p' a') l.length listed b p a
  | [], k, listed, b, p, a, _, hk, _, hB, h => by
    have : k = n := by simpa using hk
    subst this
    exact ⟨by simpa [lexHeadB] using hB, h⟩
  | o :: l, k, listed, b, p, a, hl, hk, inv, hB, h => by
    have h0 : ops[k]? = some o := by simpa using (hl 0 (by simp)).symm
    have hl' : ∀ j, j < l.length → l[j]? = ops[k + 1 + j]? := fun j hj => by have := hl (j + 1) (by simp; omega); simpa [Nat.add_assoc, Nat.add_comm 1 j] using this
    have hk' : k + 1 + l.length = n := by simp only [List.length_cons] at hk; omega
    have hkn : k < n := by omega
    simp only [List.length_cons, lexHeadB, Bool.and_eq_true] at hB
    obtain ⟨hx, hB'⟩ := hB
    rcases h with ⟨hne, hnk, v, t, hy, hK⟩ | ⟨rfl, rfl, hm, hK⟩ | ⟨rfl, v, hm, hK⟩
    · rw [if_neg (by simp [hne, hnk]), Bool.and_eq_true] at hx
      have hr' : k ∈ Region.ready md ops listed := by simpa using hx.1
      exact wpAnyB_first h0 (Region.noSelect_spec hsel) hs hc hn hkn (fun listed' b' p' a' hL => seqB_ready hL.1) l.length listed b p a inv (Region.free_spec h0 hx.2) hr' hy
        (wpAnyB_lex hsel hs hc hn l (k + 1) _ _ _ _ hl' hk' (inv.set hr' hkn) hB' hK)
    · rw [if_pos (.inl rfl)] at hx
      have hr : Region.ready md ops listed = [k] := of_decide_eq_true hx
      have hr' : k ∈ Region.ready md ops listed := by rw [hr]; simp
      refine ⟨by rw [hr]; simp, fun j hj => ?_⟩
      obtain rfl : j = k := by rw [hr] at hj; simpa using hj
      exact ⟨hkn, .inr (.inl ⟨o, h0, rfl, hm, fun u => wpAnyB_lex hsel hs hc hn l (j + 1) _ _ _ _ hl' hk' (inv.set hr' hkn) hB' (hK u)⟩)⟩
    · rw [if_pos (.inr rfl)] at hx
      have hr : Region.ready md ops listed = [k] := of_decide_eq_true hx
      have hr' : k ∈ Region.ready md ops listed := by rw [hr]; simp
      refine ⟨by rw [hr]; simp, fun j hj => ?_⟩
      obtain rfl : j = k := by rw [hr] at hj; simpa using hj
      exact ⟨hkn, .inr (.inr ⟨o, v, h0, hm, wpAnyB_lex hsel hs hc hn l (j + 1) _ _ _ _ hl' hk' (inv.set hr' hkn) hB' hK⟩)⟩

/-- THE LAW. -/
theorem wp_region_detB (S : Bool → Option Value → World → Prop) (b0 : Bool) (n ka ks : Nat) {id : Nat} {l : List Oper} {Q : Exit → Act → World → Prop} {a : Act} {w : World} (hm : P.follows .mixedOrders = true)
    (hB : lexTailB .any l.toArray n ka ks = true) (hS : S b0 none w.drew)
    (h : detGoB P l.toArray S ka ks (fun b p a' => ∀ w', S b p w' → wpList P l.toArray Q (l.drop n) a' w') (l.take n) 0 b0 none a) : (Code.region id l.toArray true).wp P Q a w := by
  simp only [lexTailB, Bool.and_eq_true, decide_eq_true_eq] at hB
  obtain ⟨⟨⟨⟨hsel, hn⟩, hs⟩, hc⟩, hlex⟩ := hB
  have hn' : n < l.length := by simpa using hn
  have htl : (l.take n).length = n := by simp; omega
  have hdl : (l.drop n).length = l.toArray.size - n := by simp
  have inv0 : HeadInv .any l.toArray n (Array.replicate l.toArray.size false) :=
    ⟨by simp, fun j oj _ hl => (by rw [getD_replicate_false] at hl; cases hl), fun t _ ht => getD_in (by simpa using ht) (getD_replicate_false _ _)⟩
  have H := wpAnyB_lex (md := .any) (g := l.toArray.size - n) hsel hs hc hn (l.take n) 0 _ b0 none a (fun j hj => by
    have hj' : j < n := by rw [htl] at hj; exact hj
    simp [hj']) (by simpa using htl) inv0 (by rw [htl]; exact hlex) h
  refine wp_region_any hm ?_
  have := wpAny_of_headB (Q := Q) (g := l.toArray.size - n) (fun listed b p a' hL w' hS' => by
    have := wpAny_of_seq (md := .any) (Q' := Q) (l.drop n) n listed a' w' (fun j => by simp [List.getElem?_drop]) (by rw [hdl]; exact hL.1) (hL.2 w' hS')
    rwa [hdl] at this) _ _ _ _ _ H _ hS
  rw [htl, show n + (l.toArray.size - n) = l.toArray.size by omega] at this
  exact this

section
variable {K : Bool → Option Value → Act → Prop} {o : Oper} {os : List Oper} {a : Act} {b : Bool} {p : Option Value} {k ka ks : Nat}
theorem detB_end (h : K b p a) : detGoB P ops S ka ks K [] k b p a := h
theorem detB_plain {d : Tmp} {v : Value} (hka : k ≠ ka) (hks : k ≠ ks) (hd : o.dst = some d) (hw : Region.wanted o (yielded ops a.tmps) = true) (h : ∀ b p w, S b p w → wpList P ops (detPost d v (S b p) a.defers) [o] a w)
    (hn : detGoB P ops S ka ks K os (k + 1) b p (a.put o.dst v)) : detGoB P ops S ka ks K (o :: os) k b p a := by
  exact .inl ⟨hka, hks, v, false, settles_of hd hw h, by rw [Bool.or_false]; exact hn⟩
theorem detB_skip (hka : k ≠ ka) (hks : k ≠ ks) (hw : Region.wanted o (yielded ops a.tmps) = false) (hn : detGoB P ops S ka ks K os (k + 1) b p (a.put o.dst undef)) : detGoB P ops S ka ks K (o :: os) k b p a :=
  .inl ⟨hka, hks, undef, false, .inr ⟨hw, rfl, rfl⟩, by rw [Bool.or_false]; exact hn⟩
theorem detB_alloc {t : TypeId} {cs : Array Value} (hka : k = ka) (hw : Region.wanted o (yielded ops a.tmps) = true) (hz : ∀ w, (execOp a.eval o).run P w = .ok (.value (.pointer (some ⟨w.heap.size, 0, none⟩))) (w.alloc (.cells cs t)))
    (hS : ∀ b w, S b none w → S b (some (.pointer (some ⟨w.heap.size, 0, none⟩))) (w.alloc (.cells cs t)))
    (hn : ∀ u, detGoB P ops S ka ks K os (k + 1) b (some u) (a.put o.dst u)) : detGoB P ops S ka ks K (o :: os) k b none a :=
  .inr (.inl ⟨hka, rfl, ⟨hw, fun b w h => ⟨_, by rw [hz w]; exact ⟨rfl, hS b w h⟩⟩⟩, hn⟩)
theorem detB_store (hks : k = ks) (hw : Region.wanted o (yielded ops a.tmps) = true) (h : ∀ b w, S b p w → ∃ w', (execOp a.eval o).run P w = .ok .skip w' ∧ S true p w')
    (hn : detGoB P ops S ka ks K os (k + 1) true p (a.put o.dst undef)) : detGoB P ops S ka ks K (o :: os) k b p a :=
  .inr (.inr ⟨hks, undef, ⟨hw, fun b w hS => by
    obtain ⟨w', h1, h2⟩ := h b w hS
    rw [h1]
    exact ⟨rfl, h2⟩⟩, hn⟩)
end
end
end Go.Proofs.YtnbcbipigiopbaaGreatDoor
/-
  A region that draws its order, holds calls and loads, makes one block and stores into it: what stands meanwhile. No conditions.
-/
namespace Go.Proofs.YtnbcbipigiopbaaGreatDoor
open Go.RowKit

/-- Since W0: nothing old has turned; the new block, once it is there, holds cs0, and behind the store (b) cs1. -/
def MadeS (W0 : World) (cs0 cs1 : Array Value) (t : TypeId) (b : Bool) (p : Option Value) (W : World) : Prop :=
  (∀ b o, b < W0.heap.size → W.cell? ⟨b, o, none⟩ = W0.cell? ⟨b, o, none⟩) ∧ Ext W0 W ∧ (p = none → b = false) ∧ ∀ u, p = some u → ∃ g, u = .pointer (some ⟨g, 0, none⟩) ∧ W0.heap.size ≤ g ∧ W.heap[g]? = some (.cells (if b = true then cs1 else cs0) t (0, 0))
variable {W0 W W' : World} {cs0 cs1 : Array Value} {t : TypeId} {b : Bool} {p : Option Value}
theorem MadeS.start (w : World) : MadeS w cs0 cs1 t false none w.drew := ⟨fun _ _ _ => rfl, (Ext.refl w).drew, fun _ => rfl, fun u hu => by cases hu⟩
theorem MadeS.ext (h : MadeS W0 cs0 cs1 t b p W) (hx : Ext W W') : MadeS W0 cs0 cs1 t b p W' :=
  ⟨fun c o hc => (h.2.1.trans hx).cells c o hc, h.2.1.trans hx, h.2.2.1, fun u hu => by
    obtain ⟨g, h1, h2, h3⟩ := h.2.2.2 u hu
    exact ⟨g, h1, h2, (hx.block g (lt_of_block h3)).trans h3⟩⟩
theorem MadeS.made (h : MadeS W0 cs0 cs1 t b none W) : MadeS W0 cs0 cs1 t b (some (.pointer (some ⟨W.heap.size, 0, none⟩))) (W.alloc (.cells cs0 t)) :=
  ⟨fun c o hc => (h.2.1.alloc _).cells c o hc, h.2.1.alloc _, (fun hn => by cases hn), fun u hu => by
    injection hu with hu
    rw [h.2.2.1 rfl]
    exact ⟨W.heap.size, hu.symm, h.2.1.size, World.alloc_heap_new W _⟩⟩
theorem MadeS.store {P : Program} {o : Oper} {a : Act} {u : Value} (ty : TypeId) (x y : Operand) (ho : o.op = .store ty x y) (hx : a.eval x = u) (hy : a.eval y = .agg cs1) (hi : (P.info? ty).map (·.size) = some cs1.size) (hsz : cs0.size = cs1.size) (h1 : cs1.all (·.oneCell') = true) :
    ∀ b w, MadeS W0 cs0 cs1 t b (some u) w → ∃ w', (execOp a.eval o).run P w = .ok .skip w' ∧ MadeS W0 cs0 cs1 t true (some u) w' := by
  intro b w hS
  obtain ⟨g, hu, hg, hr⟩ := hS.2.2.2 u rfl
  refine ⟨w.setRow g cs1, ?_, fun c o hc => ?_, below_setRow hS.2.1 hg _, (fun hn => by cases hn), fun u' hu' => ?_⟩
  · rw [hu] at hx
    unfold execOp
    simp only [ho, hx, hy, Instr.storeAt, Instr.sureAddr, Sem.run_bind, Sem.run_pure, Result.andThen_ok, run_storeVar_row w g t ty _ cs1 hr hi (by split <;> simp [hsz]) h1]
  · exact Ext.cells (show Ext W0 (w.setRow g cs1) from below_setRow hS.2.1 hg cs1) c o hc
  · injection hu' with hu'
    exact ⟨g, hu'.symm.trans hu, hg, by rw [if_pos rfl]; exact setRow_heap w g _ _ _ _ hr⟩
end Go.Proofs.YtnbcbipigiopbaaGreatDoor
