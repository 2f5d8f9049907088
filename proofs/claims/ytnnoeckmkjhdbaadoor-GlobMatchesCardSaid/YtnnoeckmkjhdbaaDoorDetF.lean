/-
  A region that draws its order, whose operations each leave a value that does not hang on the order and may turn one flag: the flag's end is the disjunction of all.
  No conditions.
-/
import Derived.Test.YtnnoeckmkjhdbaaDoorDet
namespace Go.Proofs.YtnnoeckmkjhdbaaDoor
open Go.RowKit

section
variable {P : Program} {ops : Array Oper} {S : Bool → World → Prop} {md : Region.Mode}

/-- In state a, in every world that meets S b, operation o leaves v, and S (b || h) holds behind it. -/
def SettlesF (P : Program) (ops : Array Oper) (S : Bool → World → Prop) (h : Bool) (o : Oper) (v : Value) (a : Act) : Prop :=
  (Region.wanted o (yielded ops a.tmps) = true ∧ ∀ b w, S b w → leaves P (S (b || h)) v ((execOp a.eval o).run P w)) ∨
  (Region.wanted o (yielded ops a.tmps) = false ∧ v = undef ∧ h = false)

theorem SettlesF.wpOp {i : Nat} {o : Oper} {v : Value} {a : Act} {h b : Bool} {Q : Exit → Act → World → Prop} (hi : ops[i]? = some o) (hy : SettlesF P ops S h o v a)
    {K : Act → World → Prop} {w : World} (hS : S b w) (hk : ∀ w', S (b || h) w' → K (a.put o.dst v) w') : wpOp P ops Q i K a w := by
  unfold Go.wpOp
  simp only [hi]
  rcases hy with ⟨hw, hv⟩ | ⟨hw, rfl, rfl⟩
  · simp only [hw, if_true]
    refine .inl ?_
    have hl := hv b w hS
    unfold Oper.wp
    generalize (execOp a.eval o).run P w = r at *
    cases r with
    | ok n w' =>
      cases n <;> simp only [leaves, Oper.upon] at hl ⊢
      case value u => rw [hl.1]; exact hk w' hl.2
      case skip => rw [hl.1]; exact hk w' hl.2
      case enter f args =>
        refine hl.mono fun e w'' ⟨he, hS'⟩ => ?_
        subst he
        exact hk w'' hS'
      case row row args =>
        refine hl.mono fun u w'' ⟨he, hS'⟩ => ?_
        subst he
        exact hk w'' hS'
    | halt x w' => exact hl.elim
  · simp only [hw, Bool.false_eq_true, if_false]
    rw [Bool.or_false] at hk
    exact hk w hS

theorem SettlesF.of_same {h : Bool} {o : Oper} {v : Value} {a a' : Act} (hy : SettlesF P ops S h o v a) (he : execOp a'.eval o = execOp a.eval o)
    (hw : Region.wanted o (yielded ops a'.tmps) = Region.wanted o (yielded ops a.tmps)) : SettlesF P ops S h o v a' := by
  unfold SettlesF at *
  rw [he, hw]
  exact hy

/-- Whatever order is picked from here on, every operation leaves a value and a turn of the flag that do not hang on it. -/
def wpAnyF (P : Program) (md : Region.Mode) (ops : Array Oper) (S : Bool → World → Prop) (K : Bool → Act → Prop) : Nat → Array Bool → Bool → Act → Prop
  | 0, listed, b, a => Region.ready md ops listed = [] ∧ K b a
  | fuel + 1, listed, b, a =>
    (Region.ready md ops listed = [] → K b a) ∧
    ∀ j ∈ Region.ready md ops listed, ∃ o v h, ops[j]? = some o ∧ SettlesF P ops S h o v a ∧ wpAnyF P md ops S K fuel (listed.setIfInBounds j true) (b || h) (a.put o.dst v)

theorem wpAny_of_detF {Q : Exit → Act → World → Prop} {K : Bool → Act → Prop} (hK : ∀ b a, K b a → ∀ w, S b w → Q .normal a w) :
    ∀ (fuel : Nat) (listed : Array Bool) (b : Bool) (a : Act), wpAnyF P md ops S K fuel listed b a → ∀ w, S b w → wpAny P md ops Q fuel listed a w
  | 0, _, b, a, h, w, hS => ⟨h.1, hK b a h.2 w hS⟩
  | fuel + 1, _, b, a, h, w, hS => ⟨fun h0 => hK b a (h.1 h0) w hS, fun j hj => by
      obtain ⟨o, v, t, ho, hy, hn⟩ := h.2 j hj
      exact hy.wpOp ho hS fun w' hS' => wpAny_of_detF hK fuel _ _ _ hn w' hS'⟩

theorem wpAnyF_first {K : Bool → Act → Prop} {i : Nat} {oi : Oper} {v : Value} {h : Bool} (hi : ops[i]? = some oi) (hsel : ∀ (j : Nat) (o : Oper) cs b, ops[j]? = some o → o.op ≠ .select cs b) :
    ∀ (fuel : Nat) (listed : Array Bool) (b : Bool) (a : Act),
      (∀ j oj, ops[j]? = some oj → j ≠ i → listed.getD j true = false → (∀ e ∈ oj.after, Region.binds md e = true → e.on ≠ i) → oi.apart ops oj = true) →
      i ∈ Region.ready md ops listed → SettlesF P ops S h oi v a →
      wpAnyF P md ops S K fuel (listed.setIfInBounds i true) (b || h) (a.put oi.dst v) → wpAnyF P md ops S K (fuel + 1) listed b a := by
  intro fuel
  induction fuel with
  | zero =>
    intro listed b a _ hr hy H
    refine ⟨fun h => (by rw [h] at hr; cases hr), fun j hj => ?_⟩
    by_cases hji : j = i
    · subst hji; exact ⟨oi, v, h, hi, hy, H⟩
    · have := ready_mono hj hji
      rw [H.1] at this
      cases this
  | succ fuel ih =>
    intro listed b a hfree hr hy H
    refine ⟨fun h => (by rw [h] at hr; cases hr), fun j hj => ?_⟩
    by_cases hji : j = i
    · subst hji; exact ⟨oi, v, h, hi, hy, H⟩
    · obtain ⟨oj', u, t, hoj', hyj, hn⟩ := H.2 j (ready_mono hj hji)
      obtain ⟨hjun, oj, hoj, hall⟩ := mem_ready.1 hj
      obtain rfl : oj' = oj := Option.some.inj (hoj'.symm.trans hoj)
      have hnot : ∀ e ∈ oj'.after, Region.binds md e = true → e.on ≠ i := fun e he hb heq => by
        have h1 := hall e he hb
        have h0 := (mem_ready.1 hr).1
        rw [heq] at h1
        rcases Nat.lt_or_ge i listed.size with h' | h'
        · simp [h'] at h0 h1; rw [h0] at h1; cases h1
        · simp [Array.getElem?_eq_none h'] at h1
      obtain ⟨h1, h2, h3⟩ := Oper.apart_spec (hfree j oj' hoj hji hjun hnot)
      have hyj' : SettlesF P ops S t oj' u a := hyj.of_same (execOp_put oj' (fun cs b => hsel j oj' cs b hoj) a oi.dst v h1).symm (wanted_put oj' a oi.dst v h1).symm
      have hyi' : SettlesF P ops S h oi v (a.put oj'.dst u) := hy.of_same (execOp_put oi (fun cs b => hsel i oi cs b hi) a oj'.dst u h3) (wanted_put oi a oj'.dst u h3)
      have hfree' : ∀ k ok, ops[k]? = some ok → k ≠ i → (listed.setIfInBounds j true).getD k true = false →
          (∀ e ∈ ok.after, Region.binds md e = true → e.on ≠ i) → oi.apart ops ok = true := fun k ok hk hki hun hno => by
        refine hfree k ok hk hki ?_ hno
        by_cases hjk : j = k
        · subst hjk; exact hjun
        · rw [getD_set_ne true hjk] at hun; exact hun
      refine ⟨oj', u, t, hoj, hyj', ih (listed.setIfInBounds j true) _ _ hfree' (ready_mono hr (Ne.symm hji)) hyi' ?_⟩
      rw [Array.setIfInBounds_comm _ _ hji, ← Act.put_comm a v u h2, Bool.or_assoc, Bool.or_comm t h, ← Bool.or_assoc]
      exact hn

/-- The operations in the order of the text, each with the value that it leaves and its turn of the flag; behind the last one K holds of the frame. -/
def detGoF (P : Program) (ops : Array Oper) (S : Bool → World → Prop) (K : Bool → Act → Prop) : List Oper → Bool → Act → Prop
  | [], b, a => K b a
  | o :: os, b, a => ∃ v h, SettlesF P ops S h o v a ∧ detGoF P ops S K os (b || h) (a.put o.dst v)

theorem detF_sound {K : Bool → Act → Prop} (hs : Region.noSelect ops = true) : ∀ (os : List Oper) (i : Nat) (listed : Array Bool) (b : Bool) (a : Act),
    (∀ k, os[k]? = ops[i + k]?) → tidyGo md ops os.length i listed = true → detGoF P ops S K os b a → wpAnyF P md ops S K os.length listed b a
  | [], i, listed, b, a, _, ht, h => by
    simp only [tidyGo, List.length_nil, List.isEmpty_iff] at ht
    exact ⟨ht, h⟩
  | o :: os, i, listed, b, a, hops, ht, ⟨v, t, hy, h⟩ => by
    simp only [List.length_cons, tidyGo, Bool.and_eq_true] at ht
    obtain ⟨⟨hf, hr⟩, ht⟩ := ht
    have ho : ops[i]? = some o := by have := hops 0; simpa using this.symm
    refine wpAnyF_first ho (Region.noSelect_spec hs) os.length listed b a (Region.free_spec ho hf) (by simpa using hr) hy ?_
    exact detF_sound hs os (i + 1) _ _ _ (fun k => by have := hops (k + 1); simpa [Nat.add_assoc, Nat.add_comm 1 k] using this) ht h

/-- THE LAW. -/
theorem wp_region_detF (S : Bool → World → Prop) (b0 : Bool) {id : Nat} {l : List Oper} {Q : Exit → Act → World → Prop} {a : Act} {w : World} (hm : P.follows .mixedOrders = true)
    (hs : (Region.noSelect l.toArray && tidyGo .any l.toArray l.length 0 (Array.replicate l.length false)) = true)
    (hS : S b0 w.drew) (h : detGoF P l.toArray S (fun b a' => ∀ w', S b w' → Q .normal a' w') l b0 a) : (Code.region id l.toArray true).wp P Q a w := by
  rw [Bool.and_eq_true] at hs
  refine wp_region_any hm ?_
  have := wpAny_of_detF (Q := Q) (fun b a' hK w' hS' => hK w' hS') _ _ _ _ (detF_sound (md := .any) hs.1 l 0 _ b0 a (fun k => by simp) hs.2 h) _ hS
  simpa using this

section
variable {K : Bool → Act → Prop} {o : Oper} {os : List Oper} {a : Act} {b : Bool}
theorem detF_end (h : K b a) : detGoF P ops S K [] b a := h

theorem detF_op {d : Tmp} (v : Value) (t : Bool) (hd : o.dst = some d) (hw : Region.wanted o (yielded ops a.tmps) = true) (h : ∀ b w, S b w → wpList P ops (detPost d v (S (b || t)) a.defers) [o] a w)
    (hn : detGoF P ops S K os (b || t) (a.put o.dst v)) : detGoF P ops S K (o :: os) b a := by
  refine ⟨v, t, .inl ⟨hw, fun b w hS => ?_⟩, hn⟩
  have hl := h b w hS
  unfold wpList at hl
  rw [if_pos hw] at hl
  rcases hl with hl | ⟨_, hl⟩
  · unfold Oper.wp at hl
    generalize (execOp a.eval o).run P w = r at *
    cases r with
    | ok n w' =>
      cases n <;> simp only [leaves, Oper.upon, hd] at hl ⊢
      case value u => exact ⟨put_at hl.1, hl.2.2⟩
      case skip => exact ⟨put_at hl.1, hl.2.2⟩
      case defer x =>
        have := congrArg List.length hl.2.1
        simp [Act.put] at this
      case enter f args =>
        refine hl.mono fun e w'' he => ?_
        cases e with
        | returned u => exact ⟨by rw [put_at he.1], he.2.2⟩
        | panicked c => exact he.elim
        | outgrown => exact (detPost_out he).elim
      case row row args => exact hl.mono fun u w'' he => ⟨put_at he.1, he.2.2⟩
    | halt x w' =>
      cases x <;> simp only [leaves, Oper.upon] at hl ⊢
      case panic u => exact hl
  · exact (detPost_out hl).elim
/-- An operation that does not touch the flag. -/
theorem detF_plain {d : Tmp} {v : Value} (hd : o.dst = some d) (hw : Region.wanted o (yielded ops a.tmps) = true) (h : ∀ b w, S b w → wpList P ops (detPost d v (S b) a.defers) [o] a w)
    (hn : detGoF P ops S K os b (a.put o.dst v)) : detGoF P ops S K (o :: os) b a :=
  detF_op v false hd hw (fun b w hS => by rw [Bool.or_false]; exact h b w hS) (by rw [Bool.or_false]; exact hn)
/-- An operation that does not come up. -/
theorem detF_skip (hw : Region.wanted o (yielded ops a.tmps) = false) (hn : detGoF P ops S K os b (a.put o.dst undef)) : detGoF P ops S K (o :: os) b a :=
  ⟨undef, false, .inr ⟨hw, rfl, rfl⟩, by rw [Bool.or_false]; exact hn⟩
end
end
end Go.Proofs.YtnnoeckmkjhdbaaDoor
