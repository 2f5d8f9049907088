/-
  A region that draws its order, each of whose operations leaves a value that does not hang on the order: one walk in the order of the text serves every order.
  No conditions.
-/
import Derived.Test.YtnnoeckmkjhdbaaKit
import Derived.Orders
namespace Go.Proofs.Ytnnoeckmkjhdbaa
open Go.RowKit

section
variable {P : Program} {ops : Array Oper} {S : World → Prop} {md : Region.Mode}

/-- What an operation's run leaves: the value v, and S of the world behind it. -/
def leaves (P : Program) (S : World → Prop) (v : Value) : Result Next → Prop
  | .ok (.value u) w' => u = v ∧ S w'
  | .ok .skip w' => undef = v ∧ S w'
  | .ok (.enter f args) w' => Calls P f args w' fun e w'' => e = .returned v ∧ S w''
  | .ok (.row row args) w' => Rows P row args w' fun u w'' => u = v ∧ S w''
  | _ => False

/-- In state a, in every world that meets S, operation o leaves v, and S holds behind it. -/
def Settles (P : Program) (ops : Array Oper) (S : World → Prop) (o : Oper) (v : Value) (a : Act) : Prop :=
  (Region.wanted o (yielded ops a.tmps) = true ∧ ∀ w, S w → leaves P S v ((execOp a.eval o).run P w)) ∨
  (Region.wanted o (yielded ops a.tmps) = false ∧ v = undef)

theorem Settles.wpOp {i : Nat} {o : Oper} {v : Value} {a : Act} {Q : Exit → Act → World → Prop} (hi : ops[i]? = some o) (hy : Settles P ops S o v a)
    {K : Act → World → Prop} {w : World} (hS : S w) (h : ∀ w', S w' → K (a.put o.dst v) w') : wpOp P ops Q i K a w := by
  unfold Go.wpOp
  simp only [hi]
  rcases hy with ⟨hw, hv⟩ | ⟨hw, rfl⟩
  · simp only [hw, if_true]
    refine .inl ?_
    have hl := hv w hS
    unfold Oper.wp
    generalize (execOp a.eval o).run P w = r at *
    cases r with
    | ok n w' =>
      cases n <;> simp only [leaves, Oper.upon] at hl ⊢
      case value u => rw [hl.1]; exact h w' hl.2
      case skip => rw [hl.1]; exact h w' hl.2
      case enter f args =>
        refine hl.mono fun e w'' ⟨he, hS'⟩ => ?_
        subst he
        exact h w'' hS'
      case row row args =>
        refine hl.mono fun u w'' ⟨he, hS'⟩ => ?_
        subst he
        exact h w'' hS'
    | halt x w' => exact hl.elim
  · simp only [hw, Bool.false_eq_true, if_false]
    exact h w hS

theorem Settles.of_same {o : Oper} {v : Value} {a a' : Act} (hy : Settles P ops S o v a) (he : execOp a'.eval o = execOp a.eval o)
    (hw : Region.wanted o (yielded ops a'.tmps) = Region.wanted o (yielded ops a.tmps)) : Settles P ops S o v a' := by
  unfold Settles at *
  rw [he, hw]
  exact hy

/-- Whatever order is picked from here on, every operation leaves a value that does not hang on it. -/
def wpAnyD (P : Program) (md : Region.Mode) (ops : Array Oper) (S : World → Prop) (K : Act → Prop) : Nat → Array Bool → Act → Prop
  | 0, listed, a => Region.ready md ops listed = [] ∧ K a
  | fuel + 1, listed, a =>
    (Region.ready md ops listed = [] → K a) ∧
    ∀ j ∈ Region.ready md ops listed, ∃ o v, ops[j]? = some o ∧ Settles P ops S o v a ∧ wpAnyD P md ops S K fuel (listed.setIfInBounds j true) (a.put o.dst v)

theorem wpAny_of_det {Q : Exit → Act → World → Prop} {K : Act → Prop} (hK : ∀ a, K a → ∀ w, S w → Q .normal a w) :
    ∀ (fuel : Nat) (listed : Array Bool) (a : Act), wpAnyD P md ops S K fuel listed a → ∀ w, S w → wpAny P md ops Q fuel listed a w
  | 0, _, a, h, w, hS => ⟨h.1, hK a h.2 w hS⟩
  | fuel + 1, _, a, h, w, hS => ⟨fun h0 => hK a (h.1 h0) w hS, fun j hj => by
      obtain ⟨o, v, ho, hy, hn⟩ := h.2 j hj
      exact hy.wpOp ho hS fun w' hS' => wpAny_of_det hK fuel _ _ hn w' hS'⟩

theorem wpAnyD_first {K : Act → Prop} {i : Nat} {oi : Oper} {v : Value} (hi : ops[i]? = some oi) (hsel : ∀ (j : Nat) (o : Oper) cs b, ops[j]? = some o → o.op ≠ .select cs b) :
    ∀ (fuel : Nat) (listed : Array Bool) (a : Act),
      (∀ j oj, ops[j]? = some oj → j ≠ i → listed.getD j true = false → (∀ e ∈ oj.after, Region.binds md e = true → e.on ≠ i) → oi.apart ops oj = true) →
      i ∈ Region.ready md ops listed → Settles P ops S oi v a →
      wpAnyD P md ops S K fuel (listed.setIfInBounds i true) (a.put oi.dst v) → wpAnyD P md ops S K (fuel + 1) listed a := by
  intro fuel
  induction fuel with
  | zero =>
    intro listed a _ hr hy H
    refine ⟨fun h => (by rw [h] at hr; cases hr), fun j hj => ?_⟩
    by_cases hji : j = i
    · subst hji; exact ⟨oi, v, hi, hy, H⟩
    · have := ready_mono hj hji
      rw [H.1] at this
      cases this
  | succ fuel ih =>
    intro listed a hfree hr hy H
    refine ⟨fun h => (by rw [h] at hr; cases hr), fun j hj => ?_⟩
    by_cases hji : j = i
    · subst hji; exact ⟨oi, v, hi, hy, H⟩
    · obtain ⟨oj', u, hoj', hyj, hn⟩ := H.2 j (ready_mono hj hji)
      obtain ⟨hjun, oj, hoj, hall⟩ := mem_ready.1 hj
      obtain rfl : oj' = oj := Option.some.inj (hoj'.symm.trans hoj)
      have hnot : ∀ e ∈ oj'.after, Region.binds md e = true → e.on ≠ i := fun e he hb heq => by
        have h1 := hall e he hb
        have h0 := (mem_ready.1 hr).1
        rw [heq] at h1
        rcases Nat.lt_or_ge i listed.size with h' | h'
        · simp [h'] at h0 h1; rw [h0] at h1; cases h1
        · simp [Array.getElem?_eq_none h'] at h1
      obtain ⟨h1, h2, h3⟩ := Oper.apart_spec (hfree j oj' hoj hji hjun hnot)
      have hyj' : Settles P ops S oj' u a := hyj.of_same (execOp_put oj' (fun cs b => hsel j oj' cs b hoj) a oi.dst v h1).symm (wanted_put oj' a oi.dst v h1).symm
      have hyi' : Settles P ops S oi v (a.put oj'.dst u) := hy.of_same (execOp_put oi (fun cs b => hsel i oi cs b hi) a oj'.dst u h3) (wanted_put oi a oj'.dst u h3)
      have hfree' : ∀ k ok, ops[k]? = some ok → k ≠ i → (listed.setIfInBounds j true).getD k true = false →
          (∀ e ∈ ok.after, Region.binds md e = true → e.on ≠ i) → oi.apart ops ok = true := fun k ok hk hki hun hno => by
        refine hfree k ok hk hki ?_ hno
        by_cases hjk : j = k
        · subst hjk; exact hjun
        · rw [getD_set_ne true hjk] at hun; exact hun
      refine ⟨oj', u, hoj, hyj', ih (listed.setIfInBounds j true) _ hfree' (ready_mono hr (Ne.symm hji)) hyi' ?_⟩
      rw [Array.setIfInBounds_comm _ _ hji, ← Act.put_comm a v u h2]
      exact hn

/-- The operations in the order of the text, each with the value that it leaves; behind the last one K holds of the frame. -/
def detGo (P : Program) (ops : Array Oper) (S : World → Prop) (K : Act → Prop) : List Oper → Act → Prop
  | [], a => K a
  | o :: os, a => ∃ v, Settles P ops S o v a ∧ detGo P ops S K os (a.put o.dst v)

/-- The order of the text is allowed, and whoever comes up may be taken first. -/
def tidyGo (md : Region.Mode) (ops : Array Oper) : Nat → Nat → Array Bool → Bool
  | 0, _, listed => (Region.ready md ops listed).isEmpty
  | n + 1, i, listed => Region.free md ops listed i && (Region.ready md ops listed).contains i && tidyGo md ops n (i + 1) (listed.setIfInBounds i true)

theorem det_sound {K : Act → Prop} (hs : Region.noSelect ops = true) : ∀ (os : List Oper) (i : Nat) (listed : Array Bool) (a : Act),
    (∀ k, os[k]? = ops[i + k]?) → tidyGo md ops os.length i listed = true → detGo P ops S K os a → wpAnyD P md ops S K os.length listed a
  | [], i, listed, a, _, ht, h => by
    simp only [tidyGo, List.length_nil, List.isEmpty_iff] at ht
    exact ⟨ht, h⟩
  | o :: os, i, listed, a, hops, ht, ⟨v, hy, h⟩ => by
    simp only [List.length_cons, tidyGo, Bool.and_eq_true] at ht
    obtain ⟨⟨hf, hr⟩, ht⟩ := ht
    have ho : ops[i]? = some o := by have := hops 0; simpa using this.symm
    refine wpAnyD_first ho (Region.noSelect_spec hs) os.length listed a (Region.free_spec ho hf) (by simpa using hr) hy ?_
    exact det_sound hs os (i + 1) _ _ (fun k => by have := hops (k + 1); simpa [Nat.add_assoc, Nat.add_comm 1 k] using this) ht h

/-- THE LAW. -/
theorem wp_region_det (S : World → Prop) {id : Nat} {l : List Oper} {Q : Exit → Act → World → Prop} {a : Act} {w : World} (hm : P.follows .mixedOrders = true)
    (hs : (Region.noSelect l.toArray && tidyGo .any l.toArray l.length 0 (Array.replicate l.length false)) = true)
    (hS : S w.drew) (h : detGo P l.toArray S (fun a' => ∀ w', S w' → Q .normal a' w') l a) : (Code.region id l.toArray true).wp P Q a w := by
  rw [Bool.and_eq_true] at hs
  refine wp_region_any hm ?_
  have := wpAny_of_det (Q := Q) (fun a' hK w' hS' => hK w' hS') _ _ _ (det_sound (md := .any) hs.1 l 0 _ a (fun k => by simp) hs.2 h) _ hS
  simpa using this

section
variable {K : Act → Prop} {o : Oper} {os : List Oper} {a : Act} {v : Value}
theorem det_end (h : K a) : detGo P ops S K [] a := h
/-- What the walk of one operation ends in. -/
def detPost (d : Tmp) (v : Value) (S : World → Prop) (ds : List Deferred) : Exit → Act → World → Prop
  | .normal, a', w' => a'.tmps[d]? = some v ∧ a'.defers = ds ∧ S w'
  | _, _, _ => False

theorem put_at {a : Act} {t : Tmp} {u v : Value} (h : (a.put (some t) u).tmps[t]? = some v) : u = v := by
  simp only [Act.put, Array.getElem?_setIfInBounds_self] at h
  split at h
  · exact Option.some.inj h
  · cases h

theorem detPost_out {d : Tmp} {v : Value} {ds : List Deferred} (h : LetsOut (detPost d v S ds)) : False := by
  obtain ⟨_, _, h⟩ := h
  exact h.elim

/-- An operation that is walked: whatever it is. -/
theorem det_op {d : Tmp} (hd : o.dst = some d) (hw : Region.wanted o (yielded ops a.tmps) = true) (h : ∀ w, S w → wpList P ops (detPost d v S a.defers) [o] a w)
    (hn : detGo P ops S K os (a.put o.dst v)) : detGo P ops S K (o :: os) a := by
  refine ⟨v, .inl ⟨hw, fun w hS => ?_⟩, hn⟩
  have hl := h w hS
  unfold wpList at hl
  rw [if_pos hw] at hl
  rcases hl with hl | ⟨_, hl⟩
  · unfold Oper.wp at hl
    generalize (execOp a.eval o).run P w = r at *
    cases r with
    | ok n w' =>
      cases n <;> simp only [leaves, Oper.upon, hd] at hl ⊢
      case value u => exact ⟨put_at hl.1, hl.2.2⟩
      case skip => exact ⟨put_at hl.1, hl.2.2⟩
      case defer x =>
        have := congrArg List.length hl.2.1
        simp [Act.put] at this
      case enter f args =>
        refine hl.mono fun e w'' he => ?_
        cases e with
        | returned u => exact ⟨by rw [put_at he.1], he.2.2⟩
        | panicked c => exact he.elim
        | outgrown => exact (detPost_out he).elim
      case row row args => exact hl.mono fun u w'' he => ⟨put_at he.1, he.2.2⟩
    | halt x w' =>
      cases x <;> simp only [leaves, Oper.upon] at hl ⊢
      case panic u => exact hl
  · exact (detPost_out hl).elim
/-- A guard that is not decided: both ways. -/
theorem det_guard {g : Nat} {want X : Bool} (_hgd : o.guard = some (g, want)) (_hy : yielded ops a.tmps g = some X) (ht : X = true → detGo P ops S K (o :: os) a) (hf : X = false → detGo P ops S K (o :: os) a) :
    detGo P ops S K (o :: os) a := by
  cases X
  · exact hf rfl
  · exact ht rfl
/-- An operation that does not come up. -/
theorem det_skip (hw : Region.wanted o (yielded ops a.tmps) = false) (hn : detGo P ops S K os (a.put o.dst undef)) : detGo P ops S K (o :: os) a :=
  ⟨undef, .inr ⟨hw, rfl⟩, hn⟩
end
/-- What a region keeps: the cells that stood at its beginning; nothing that stood has turned. -/
abbrev Stood (w w' : World) : Prop := (∀ b o, b < w.heap.size → w'.cell? ⟨b, o, none⟩ = w.cell? ⟨b, o, none⟩) ∧ Ext w w'
theorem Stood.start (w : World) : Stood w w.drew := held_start w
theorem Stood.of {w w' : World} (h : Ext w w') : Stood w w' := ⟨fun b o hb => h.cells b o hb, h⟩
/-- Only draws. -/
abbrev Drawn (w w' : World) : Prop := ∃ n, w' = w.drewN n
theorem Drawn.start (w : World) : Drawn w w.drew := ⟨1, rfl⟩
theorem Drawn.trans {a b c : World} (h : Drawn a b) (k : Drawn b c) : Drawn a c := by
  obtain ⟨n, rfl⟩ := h
  obtain ⟨m, rfl⟩ := k
  exact ⟨n + m, by simp⟩
theorem Drawn.ext {w w' : World} (h : Drawn w w') : Ext w w' := by
  obtain ⟨n, rfl⟩ := h
  exact (Ext.refl w).drewN n
theorem Stood.next {W w w' : World} (h : Stood W w) (k : Ext w w') : Stood W w' := .of (h.2.trans k)
end
end Go.Proofs.Ytnnoeckmkjhdbaa
