/-
  A region that draws its order and ends in operations that come one behind the other: the operations of its head each leave a value that does not hang on the order and may turn one flag;
  one of them, the head's last one, may leave a value that hangs on the order (a new block). No conditions.
-/
import Derived.StillTail
import Derived.Test.YtnnoeckmkjhdbaaDoorDetF
namespace Go.Proofs.YtnnoeckmkjhdbaaDoor
open Go.RowKit

section
variable {P : Program} {ops : Array Oper} {S : Bool → Option Value → World → Prop} {md : Region.Mode}

/-- In state a, in every world that meets S b p, operation o leaves v, and S (b || h) p holds behind it. -/
def SettlesT (P : Program) (ops : Array Oper) (S : Bool → Option Value → World → Prop) (h : Bool) (o : Oper) (v : Value) (a : Act) : Prop :=
  (Region.wanted o (yielded ops a.tmps) = true ∧ ∀ b p w, S b p w → leaves P (S (b || h) p) v ((execOp a.eval o).run P w)) ∨
  (Region.wanted o (yielded ops a.tmps) = false ∧ v = undef ∧ h = false)
/-- In state a, in every world that meets S b none, operation o leaves some u, and S b (some u) holds behind it. -/
def MakesT (P : Program) (ops : Array Oper) (S : Bool → Option Value → World → Prop) (o : Oper) (a : Act) : Prop :=
  Region.wanted o (yielded ops a.tmps) = true ∧ ∀ b w, S b none w → ∃ u, leaves P (S b (some u)) u ((execOp a.eval o).run P w)

theorem wpOp_leaves {i : Nat} {o : Oper} {v : Value} {a : Act} {Q : Exit → Act → World → Prop} {T : World → Prop} (hi : ops[i]? = some o) (hw : Region.wanted o (yielded ops a.tmps) = true)
    {K : Act → World → Prop} {w : World} (hl : leaves P T v ((execOp a.eval o).run P w)) (hk : ∀ w', T w' → K (a.put o.dst v) w') : wpOp P ops Q i K a w := by
  unfold Go.wpOp
  simp only [hi, hw, if_true]
  refine .inl ?_
  unfold Oper.wp
  generalize (execOp a.eval o).run P w = r at *
  cases r with
  | ok n w' =>
    cases n <;> simp only [leaves, Oper.upon] at hl ⊢
    case value u => rw [hl.1]; exact hk w' hl.2
    case skip => rw [hl.1]; exact hk w' hl.2
    case enter f args =>
      refine hl.mono fun e w'' ⟨he, hS'⟩ => ?_
      subst he
      exact hk w'' hS'
    case row row args =>
      refine hl.mono fun u w'' ⟨he, hS'⟩ => ?_
      subst he
      exact hk w'' hS'
  | halt x w' => exact hl.elim

theorem SettlesT.wpOp {i : Nat} {o : Oper} {v : Value} {a : Act} {h b : Bool} {p : Option Value} {Q : Exit → Act → World → Prop} (hi : ops[i]? = some o) (hy : SettlesT P ops S h o v a)
    {K : Act → World → Prop} {w : World} (hS : S b p w) (hk : ∀ w', S (b || h) p w' → K (a.put o.dst v) w') : wpOp P ops Q i K a w := by
  rcases hy with ⟨hw, hv⟩ | ⟨hw, rfl, rfl⟩
  · exact wpOp_leaves hi hw (hv b p w hS) hk
  · unfold Go.wpOp
    simp only [hi, hw, Bool.false_eq_true, if_false]
    rw [Bool.or_false] at hk
    exact hk w hS

theorem SettlesT.of_same {h : Bool} {o : Oper} {v : Value} {a a' : Act} (hy : SettlesT P ops S h o v a) (he : execOp a'.eval o = execOp a.eval o)
    (hw : Region.wanted o (yielded ops a'.tmps) = Region.wanted o (yielded ops a.tmps)) : SettlesT P ops S h o v a' := by
  unfold SettlesT at *
  rw [he, hw]
  exact hy
theorem MakesT.of_same {o : Oper} {a a' : Act} (hy : MakesT P ops S o a) (he : execOp a'.eval o = execOp a.eval o)
    (hw : Region.wanted o (yielded ops a'.tmps) = Region.wanted o (yielded ops a.tmps)) : MakesT P ops S o a' := by
  unfold MakesT at *
  rw [he, hw]
  exact hy

/-- The head in whatever order. -/
def wpAnyT (P : Program) (md : Region.Mode) (ops : Array Oper) (S : Bool → Option Value → World → Prop) (n : Nat) (L : Array Bool → Bool → Option Value → Act → Prop) : Nat → Array Bool → Bool → Option Value → Act → Prop
  | 0, listed, b, p, a => L listed b p a
  | f + 1, listed, b, p, a => Region.ready md ops listed ≠ [] ∧ ∀ i ∈ Region.ready md ops listed, i < n ∧
      ((∃ o v h, ops[i]? = some o ∧ SettlesT P ops S h o v a ∧ wpAnyT P md ops S n L f (listed.setIfInBounds i true) (b || h) p (a.put o.dst v)) ∨
       (∃ o, ops[i]? = some o ∧ p = none ∧ MakesT P ops S o a ∧ ∀ u, wpAnyT P md ops S n L f (listed.setIfInBounds i true) b (some u) (a.put o.dst u)))

theorem wpAny_of_headT {n g : Nat} {L : Array Bool → Bool → Option Value → Act → Prop} {Q : Exit → Act → World → Prop} (hL : ∀ listed b p a, L listed b p a → ∀ w, S b p w → wpAny P md ops Q g listed a w) :
    ∀ (f : Nat) (listed : Array Bool) (b : Bool) (p : Option Value) (a : Act), wpAnyT P md ops S n L f listed b p a → ∀ w, S b p w → wpAny P md ops Q (f + g) listed a w
  | 0, listed, b, p, a, h, w, hS => by rw [Nat.zero_add]; exact hL _ _ _ _ h w hS
  | f + 1, listed, b, p, a, h, w, hS => by
    rw [show f + 1 + g = (f + g) + 1 by omega]
    refine ⟨fun h0 => absurd h0 h.1, fun i hi => ?_⟩
    rcases (h.2 i hi).2 with ⟨o, v, t, ho, hy, hn⟩ | ⟨o, ho, rfl, hm, hn⟩
    · exact hy.wpOp ho hS fun w' hS' => wpAny_of_headT hL f _ _ _ _ hn w' hS'
    · obtain ⟨u, hu⟩ := hm.2 b w hS
      exact wpOp_leaves ho hm.1 hu fun w' hS' => wpAny_of_headT hL f _ _ _ _ (hn u) w' hS'

theorem wpAnyT_first {n i : Nat} {oi : Oper} {v : Value} {h : Bool} {L : Array Bool → Bool → Option Value → Act → Prop} (hi : ops[i]? = some oi) (hsel : ∀ (j : Nat) (o : Oper) cs b, ops[j]? = some o → o.op ≠ .select cs b)
    (hs : Region.sinkB md ops n = true) (hc : Region.chainB md ops n = true) (hn : n < ops.size) (hin : i < n)
    (hdone : ∀ listed b p a, L listed b p a → ∀ j ∈ Region.ready md ops listed, n ≤ j) :
    ∀ (f : Nat) (listed : Array Bool) (b : Bool) (p : Option Value) (a : Act), HeadInv md ops n listed →
      (∀ j oj, ops[j]? = some oj → j ≠ i → listed.getD j true = false → (∀ e ∈ oj.after, Region.binds md e = true → e.on ≠ i) → oi.apart ops oj = true) →
      i ∈ Region.ready md ops listed → SettlesT P ops S h oi v a →
      wpAnyT P md ops S n L f (listed.setIfInBounds i true) (b || h) p (a.put oi.dst v) → wpAnyT P md ops S n L (f + 1) listed b p a := by
  intro f
  induction f with
  | zero =>
    intro listed b p a inv _ hr hy H
    have hun := (mem_ready.1 hr).1
    refine ⟨fun h => (by rw [h] at hr; cases hr), fun j hj => ?_⟩
    have hjn : j < n := by
      rcases Nat.lt_or_ge j n with h | h
      · exact h
      · exact absurd hj (tail_waits hs hc hn inv _ i rfl hin hun j h)
    refine ⟨hjn, ?_⟩
    by_cases hji : j = i
    · subst hji; exact .inl ⟨oi, v, h, hi, hy, H⟩
    · have := hdone _ _ _ _ H j (ready_mono hj hji)
      omega
  | succ f ih =>
    intro listed b p a inv hfree hr hy H
    have hun := (mem_ready.1 hr).1
    refine ⟨fun h => (by rw [h] at hr; cases hr), fun j hj => ?_⟩
    have hjn : j < n := by
      rcases Nat.lt_or_ge j n with h | h
      · exact h
      · exact absurd hj (tail_waits hs hc hn inv _ i rfl hin hun j h)
    refine ⟨hjn, ?_⟩
    by_cases hji : j = i
    · subst hji; exact .inl ⟨oi, v, h, hi, hy, H⟩
    · obtain ⟨hjun, oj, hoj, hall⟩ := mem_ready.1 hj
      have hnot : ∀ e ∈ oj.after, Region.binds md e = true → e.on ≠ i := fun e he hb heq => by
        have h1 := hall e he hb
        rw [heq, getD_both hun] at h1
        cases h1
      obtain ⟨h1, h2, h3⟩ := Oper.apart_spec (hfree j oj hoj hji hjun hnot)
      have hfree' : ∀ k ok, ops[k]? = some ok → k ≠ i → (listed.setIfInBounds j true).getD k true = false →
          (∀ e ∈ ok.after, Region.binds md e = true → e.on ≠ i) → oi.apart ops ok = true := fun k ok hk hki hun hno => by
        refine hfree k ok hk hki ?_ hno
        by_cases hjk : j = k
        · subst hjk; exact hjun
        · rw [getD_set_ne true hjk] at hun; exact hun
      have hsame : ∀ u, SettlesT P ops S h oi v (a.put oj.dst u) := fun u => hy.of_same (execOp_put oi (fun cs b => hsel i oi cs b hi) a oj.dst u h3) (wanted_put oi a oj.dst u h3)
      rcases (H.2 j (ready_mono hj hji)).2 with ⟨oj', u, t, hoj', hyj, hnx⟩ | ⟨oj', hoj', hp, hmj, hnx⟩
      · obtain rfl : oj' = oj := Option.some.inj (hoj'.symm.trans hoj)
        have hyj' : SettlesT P ops S t oj' u a := hyj.of_same (execOp_put oj' (fun cs b => hsel j oj' cs b hoj) a oi.dst v h1).symm (wanted_put oj' a oi.dst v h1).symm
        refine .inl ⟨oj', u, t, hoj, hyj', ih (listed.setIfInBounds j true) _ _ _ (inv.set hj hjn) hfree' (ready_mono hr (Ne.symm hji)) (hsame u) ?_⟩
        rw [Array.setIfInBounds_comm _ _ hji, ← Act.put_comm a v u h2, Bool.or_assoc, Bool.or_comm t h, ← Bool.or_assoc]
        exact hnx
      · obtain rfl : oj' = oj := Option.some.inj (hoj'.symm.trans hoj)
        have hmj' : MakesT P ops S oj' a := hmj.of_same (execOp_put oj' (fun cs b => hsel j oj' cs b hoj) a oi.dst v h1).symm (wanted_put oj' a oi.dst v h1).symm
        refine .inr ⟨oj', hoj, hp, hmj', fun u => ih (listed.setIfInBounds j true) _ _ _ (inv.set hj hjn) hfree' (ready_mono hr (Ne.symm hji)) (hsame u) ?_⟩
        rw [Array.setIfInBounds_comm _ _ hji, ← Act.put_comm a v u h2]
        exact hnx u

/-- The head in the order of the text, the operation ka (if there is one) when it alone is ready. -/
def lexHeadT (md : Region.Mode) (ops : Array Oper) (g ka : Nat) : Nat → Nat → Array Bool → Bool
  | 0, k, listed => Region.seqB md ops g k listed
  | f + 1, k, listed => (if k = ka then decide (Region.ready md ops listed = [k]) else ((Region.ready md ops listed).contains k && Region.free md ops listed k)) && lexHeadT md ops g ka f (k + 1) (listed.setIfInBounds k true)
def lexTailT (md : Region.Mode) (ops : Array Oper) (n ka : Nat) : Bool :=
  Region.noSelect ops && decide (n < ops.size) && Region.sinkB md ops n && Region.chainB md ops n && lexHeadT md ops (ops.size - n) ka n 0 (Array.replicate ops.size false)

def detGoT (P : Program) (ops : Array Oper) (S : Bool → Option Value → World → Prop) (ka : Nat) (K : Bool → Option Value → Act → Prop) : List Oper → Nat → Bool → Option Value → Act → Prop
  | [], _, b, p, a => K b p a
  | o :: os, k, b, p, a => (k ≠ ka ∧ ∃ v h, SettlesT P ops S h o v a ∧ detGoT P ops S ka K os (k + 1) (b || h) p (a.put o.dst v)) ∨
      (k = ka ∧ p = none ∧ MakesT P ops S o a ∧ ∀ u, detGoT P ops S ka K os (k + 1) b (some u) (a.put o.dst u))

theorem wpAnyT_lex {n g ka : Nat} {Lq : Bool → Option Value → Act → Prop} (hsel : Region.noSelect ops = true) (hs : Region.sinkB md ops n = true) (hc : Region.chainB md ops n = true) (hn : n < ops.size) :
    ∀ (l : List Oper) (k : Nat) (listed : Array Bool) (b : Bool) (p : Option Value) (a : Act), (∀ j, j < l.length → l[j]? = ops[k + j]?) → k + l.length = n → HeadInv md ops n listed →
    lexHeadT md ops g ka l.length k listed = true → detGoT P ops S ka Lq l k b p a →
    wpAnyT P md ops S n (fun listed' b' p' a' => Region.seqB md ops g n listed' = true ∧ Lq b' p' a') l.length listed b p a
  | [], k, listed, b, p, a, _, hk, _, hB, h => by
    have : k = n := by simpa using hk
    subst this
    exact ⟨by simpa [lexHeadT] using hB, h⟩
  | o :: l, k, listed, b, p, a, hl, hk, inv, hB, h => by
    have h0 : ops[k]? = some o := by simpa using (hl 0 (by simp)).symm
    have hl' : ∀ j, j < l.length → l[j]? = ops[k + 1 + j]? := fun j hj => by have := hl (j + 1) (by simp; omega); simpa [Nat.add_assoc, Nat.add_comm 1 j] using this
    have hk' : k + 1 + l.length = n := by simp only [List.length_cons] at hk; omega
    have hkn : k < n := by omega
    simp only [List.length_cons, lexHeadT, Bool.and_eq_true] at hB
    obtain ⟨hx, hB'⟩ := hB
    rcases h with ⟨hne, v, t, hy, hK⟩ | ⟨rfl, rfl, hm, hK⟩
    · rw [if_neg hne, Bool.and_eq_true] at hx
      have hr' : k ∈ Region.ready md ops listed := by simpa using hx.1
      exact wpAnyT_first h0 (Region.noSelect_spec hsel) hs hc hn hkn (fun listed' b' p' a' hL => seqB_ready hL.1) l.length listed b p a inv (Region.free_spec h0 hx.2) hr' hy
        (wpAnyT_lex hsel hs hc hn l (k + 1) _ _ _ _ hl' hk' (inv.set hr' hkn) hB' hK)
    · rw [if_pos rfl] at hx
      have hr : Region.ready md ops listed = [k] := of_decide_eq_true hx
      have hr' : k ∈ Region.ready md ops listed := by rw [hr]; simp
      refine ⟨by rw [hr]; simp, fun j hj => ?_⟩
      obtain rfl : j = k := by rw [hr] at hj; simpa using hj
      exact ⟨hkn, .inr ⟨o, h0, rfl, hm, fun u => wpAnyT_lex hsel hs hc hn l (j + 1) _ _ _ _ hl' hk' (inv.set hr' hkn) hB' (hK u)⟩⟩

/-- THE LAW. -/
theorem wp_region_detT (S : Bool → Option Value → World → Prop) (b0 : Bool) (n ka : Nat) {id : Nat} {l : List Oper} {Q : Exit → Act → World → Prop} {a : Act} {w : World} (hm : P.follows .mixedOrders = true)
    (hB : lexTailT .any l.toArray n ka = true) (hS : S b0 none w.drew)
    (h : detGoT P l.toArray S ka (fun b p a' => ∀ w', S b p w' → wpList P l.toArray Q (l.drop n) a' w') (l.take n) 0 b0 none a) : (Code.region id l.toArray true).wp P Q a w := by
  simp only [lexTailT, Bool.and_eq_true, decide_eq_true_eq] at hB
  obtain ⟨⟨⟨⟨hsel, hn⟩, hs⟩, hc⟩, hlex⟩ := hB
  have hn' : n < l.length := by simpa using hn
  have htl : (l.take n).length = n := by simp; omega
  have hdl : (l.drop n).length = l.toArray.size - n := by simp
  have inv0 : HeadInv .any l.toArray n (Array.replicate l.toArray.size false) :=
    ⟨by simp, fun j oj _ hl => (by rw [getD_replicate_false] at hl; cases hl), fun t _ ht => getD_in (by simpa using ht) (getD_replicate_false _ _)⟩
  have H := wpAnyT_lex (md := .any) (g := l.toArray.size - n) hsel hs hc hn (l.take n) 0 _ b0 none a (fun j hj => by
    have hj' : j < n := by rw [htl] at hj; exact hj
    simp [hj']) (by simpa using htl) inv0 (by rw [htl]; exact hlex) h
  refine wp_region_any hm ?_
  have := wpAny_of_headT (Q := Q) (g := l.toArray.size - n) (fun listed b p a' hL w' hS' => by
    have := wpAny_of_seq (md := .any) (Q' := Q) (l.drop n) n listed a' w' (fun j => by simp [List.getElem?_drop]) (by rw [hdl]; exact hL.1) (hL.2 w' hS')
    rwa [hdl] at this) _ _ _ _ _ H _ hS
  rw [htl, show n + (l.toArray.size - n) = l.toArray.size by omega] at this
  exact this

section
variable {K : Bool → Option Value → Act → Prop} {o : Oper} {os : List Oper} {a : Act} {b : Bool} {p : Option Value} {k ka : Nat}
theorem detT_end (h : K b p a) : detGoT P ops S ka K [] k b p a := h
theorem detT_op {d : Tmp} (v : Value) (t : Bool) (hka : k ≠ ka) (hd : o.dst = some d) (hw : Region.wanted o (yielded ops a.tmps) = true) (h : ∀ b p w, S b p w → wpList P ops (detPost d v (S (b || t) p) a.defers) [o] a w)
    (hn : detGoT P ops S ka K os (k + 1) (b || t) p (a.put o.dst v)) : detGoT P ops S ka K (o :: os) k b p a := by
  refine .inl ⟨hka, v, t, .inl ⟨hw, fun b p w hS => ?_⟩, hn⟩
  have hl := h b p w hS
  unfold wpList at hl
  rw [if_pos hw] at hl
  rcases hl with hl | ⟨_, hl⟩
  · unfold Oper.wp at hl
    generalize (execOp a.eval o).run P w = r at *
    cases r with
    | ok n w' =>
      cases n <;> simp only [leaves, Oper.upon, hd] at hl ⊢
      case value u => exact ⟨put_at hl.1, hl.2.2⟩
      case skip => exact ⟨put_at hl.1, hl.2.2⟩
      case defer x =>
        have := congrArg List.length hl.2.1
        simp [Act.put] at this
      case enter f args =>
        refine hl.mono fun e w'' he => ?_
        cases e with
        | returned u => exact ⟨by rw [put_at he.1], he.2.2⟩
        | panicked c => exact he.elim
        | outgrown => exact (detPost_out he).elim
      case row row args => exact hl.mono fun u w'' he => ⟨put_at he.1, he.2.2⟩
    | halt x w' =>
      cases x <;> simp only [leaves, Oper.upon] at hl ⊢
      case panic u => exact hl
  · exact (detPost_out hl).elim
/-- An operation that does not touch the flag. -/
theorem detT_plain {d : Tmp} {v : Value} (hka : k ≠ ka) (hd : o.dst = some d) (hw : Region.wanted o (yielded ops a.tmps) = true) (h : ∀ b p w, S b p w → wpList P ops (detPost d v (S b p) a.defers) [o] a w)
    (hn : detGoT P ops S ka K os (k + 1) b p (a.put o.dst v)) : detGoT P ops S ka K (o :: os) k b p a :=
  detT_op v false hka hd hw (fun b p w hS => by rw [Bool.or_false]; exact h b p w hS) (by rw [Bool.or_false]; exact hn)
/-- An operation that does not come up. -/
theorem detT_skip (hka : k ≠ ka) (hw : Region.wanted o (yielded ops a.tmps) = false) (hn : detGoT P ops S ka K os (k + 1) b p (a.put o.dst undef)) : detGoT P ops S ka K (o :: os) k b p a :=
  .inl ⟨hka, undef, false, .inr ⟨hw, rfl, rfl⟩, by rw [Bool.or_false]; exact hn⟩
/-- The new block. -/
theorem detT_alloc {t : TypeId} {cs : Array Value} (hka : k = ka) (hw : Region.wanted o (yielded ops a.tmps) = true) (hz : ∀ w, (execOp a.eval o).run P w = .ok (.value (.pointer (some ⟨w.heap.size, 0, none⟩))) (w.alloc (.cells cs t)))
    (hS : ∀ b w, S b none w → S b (some (.pointer (some ⟨w.heap.size, 0, none⟩))) (w.alloc (.cells cs t)))
    (hn : ∀ u, detGoT P ops S ka K os (k + 1) b (some u) (a.put o.dst u)) : detGoT P ops S ka K (o :: os) k b none a :=
  .inr ⟨hka, rfl, ⟨hw, fun b w h => ⟨_, by rw [hz w]; exact ⟨rfl, hS b w h⟩⟩⟩, hn⟩
end
end
end Go.Proofs.YtnnoeckmkjhdbaaDoor
