/-
  The frame of every law of this seat: a walk that returns true and leaves the old memory as it was gives the law's row.
  No conditions.
-/
import Derived.Test.YtnbcbipigiopbaaGreatDoorRows
import Derived.WalkKit
import Derived.ProofKit
import Derived.OpenShut
import Derived.ShutString
import Derived.ChangeOld
import Derived.Below
import Derived.SizedLaws
import Derived.Lib.SmallJoins
import Derived.Deep.QuietTactic
import Derived.BigQuiet
import Derived.Deep.RegionHeld3
import Derived.Deep.DeepCutAuto
import Derived.Deep.LoopGhost
import Derived.Deep.Light
import Derived.Lib.Hide
import Derived.WalkSpells
import Derived.WalkLawsBesides
import Derived.Handy
import Derived.BigGuardPart
import Derived.Orders
namespace Go.Proofs.YtnbcbipigiopbaaGreatDoor.Frame
open Go.ChangeShapes Go.WideShapes Go.ChangeAt Go.RowKit
open Go.ChangeMaps (open_string shut_string)

theorem own : ownKnob Tryz.prog.godebug = none := by kernel_rfl
theorem laidOut : laidOutB Tryz.prog = true := by kernel_rfl
theorem under_bool : Tryz.prog.underlying 4 = some (.bool) := by kernel_rfl

section
variable {H : Type} {enc : TypeId × Value → H}

theorem trodAll_below {P : Program} (hl : laidOutB P = true) {W W' : World} (hb : Below W.heap.size W W') :
    ∀ {ts : List TypeId} {vs : List Value} {ds : List (DataW H)} {ps : List MemPlace}, (∀ t ∈ ts, P.readableRec t = true ∧ t < P.types.size) →
    DataW.TrodAll enc P W 0 (fun _ => true) true ts vs ds ps → (∀ x ∈ ps, x.block < W.heap.size) →
    DataW.TrodAll enc P W' 0 (fun b => decide (b < W.heap.size)) true ts vs ds ps
  | [], [], [], _, _, h, _ => h
  | t :: ts, v :: vs, d :: ds, ps, hr, ⟨p, q, h1, h2, e⟩, hlt => by
    subst e
    exact ⟨p, q, Below.trod hl (hr t (by simp)).1 (hr t (by simp)).2 h1 hb (fun x hx => hlt x (by simp [hx])),
      trodAll_below hl hb (fun t ht => hr t (by simp [ht])) h2 (fun x hx => hlt x (by simp [hx])), rfl⟩
  | [], _ :: _, _, _, _, h, _ => h.elim
  | [], [], _ :: _, _, _, h, _ => h.elim
  | _ :: _, [], _, _, _, h, _ => h.elim
  | _ :: _, _ :: _, [], _, _, h, _ => h.elim

theorem trodAll_length {P : Program} {w : World} {base : Nat} {spare : Nat → Bool} {held : Bool} :
    ∀ {ts : List TypeId} {vs : List Value} {ds : List (DataW H)} {ps : List MemPlace}, DataW.TrodAll enc P w base spare held ts vs ds ps → ds.length = ts.length
  | [], [], [], _, _ => rfl
  | t :: ts, v :: vs, d :: ds, ps, ⟨p, q, h1, h2, e⟩ => by simp [trodAll_length h2]
  | [], _ :: _, _, _, h => h.elim
  | [], [], _ :: _, _, h => h.elim
  | _ :: _, [], _, _, h => h.elim
  | _ :: _, _ :: _, [], _, h => h.elim

theorem trodAll_lt {P : Program} {w : World} {base : Nat} {spare : Nat → Bool} {held : Bool} :
    ∀ {ts : List TypeId} {vs : List Value} {ds : List (DataW H)} {ps : List MemPlace}, DataW.TrodAll enc P w base spare held ts vs ds ps → ∀ x ∈ ps, x.block < w.heap.size
  | [], [], [], ps, h, x, hx => by
    have e : ps = [] := h
    subst e; cases hx
  | t :: ts, v :: vs, d :: ds, ps, ⟨p, q, ⟨m, hm⟩, h2, e⟩, x, hx => by
    subst e
    rcases List.mem_append.1 hx with h | h
    · exact DataW.trod_lt m _ _ _ hm x h
    · exact trodAll_lt h2 x h
  | [], _ :: _, _, _, h, _, _ => h.elim
  | [], [], _ :: _, _, h, _, _ => h.elim
  | _ :: _, [], _, _, h, _, _ => h.elim
  | _ :: _, _ :: _, [], _, h, _, _ => h.elim
end

/-- What a law's walk says: whatever the readable arguments within the form's reach, the call returns true, and what was there is as it was. -/
def Walks (n : FuncId) (F : Func) : Prop :=
  ∀ (H : Type) (enc : TypeId × Value → H) (W : World) (base : Nat) (args : Array Value) (ds : List (DataW H)) (p : List MemPlace),
    (∀ (j : Nat) t v, F.params[j]? = some t → args[j]? = some v → Value.okWide Tryz.prog W .any base t v) →
    DataW.TrodAll enc Tryz.prog W 0 (fun _ => true) true F.params.toList args.toList ds p →
    (DataW.weightsEach Tryz.prog F.params.toList ds).all (· ≤ reachBytes) = true →
    Calls Tryz.prog n args W fun e W' => e = .returned (.bool true) ∧ Below W.heap.size W W'

/-- What a law's specification says: true; the arguments as they were. -/
def Plain (s : ChangeSpec) (F : Func) : Prop :=
  s.vars = [] ∧ ∀ (H : Type) (ds : List (DataW H)), ds.length = F.params.toList.length → s.fn H (ds ++ []) = { results := [.lit (.bool true)], args := ds }

set_option maxRecDepth 100000 in
theorem lifted {n : FuncId} {F : Func} {s : ChangeSpec} (hF : Tryz.prog.funcs[n]? = some F) (hn : Tryz.prog.inits.idxOf? n = none) (hs : Plain s F)
    (hres : F.resultTypes = #[4]) (hread : ∀ t ∈ F.params.toList, Tryz.prog.readableRec t = true ∧ t < Tryz.prog.types.size) (hw : Walks n F)
    (os : Os) (started : os.Started) (H : Type) (enc : TypeId × Value → H)
    (witness : ∃ (w : World) (tape : Tape) (i : Input), w.os = os ∧ (w.forCall tape i).Shaped Tryz.checked.prog ∧ i.vars = [] ∧ Input.okWide Tryz.checked.prog (w.forCall tape i) .any w.heap.size n i ∧
      s.pre6 enc Tryz.checked.prog F [] false (w.forCall tape i).memory i.args ∧ ({} : Assume).holds Tryz.checked.prog (lone (Frame.enter Tryz.checked.prog n i.args .normal) [] (w.forCall tape i))) :
    ReturnsInHanded {} Tryz.checked os n .any (s.pre6 enc Tryz.prog F [] false) (s.post enc Tryz.prog F false true false false) := by
  refine returnsInHanded_of_change_sized (C := Tryz.checked) own started hn hF witness ?_
  intro W base args ds gs before hval hW _ hsz _
  have hW' := hW
  obtain ⟨p, q, hA, hV, rfl, hfz, hnd⟩ := hW
  obtain ⟨hvars, hfn⟩ := hs
  rw [hvars] at hV
  obtain ⟨rfl, rfl⟩ : gs = [] ∧ q = [] := by
    cases gs with
    | nil => exact ⟨rfl, hV⟩
    | cons _ _ => exact hV.elim
  have hlen := trodAll_length hA
  have hlt := trodAll_lt hA
  have hsz' : (DataW.weightsEach Tryz.prog F.params.toList ds).all (· ≤ reachBytes) = true := by
    have e : s.plain.varTypes Tryz.prog = [] := by simp [ChangeSpec.plain, DataSpec.varTypes, hvars]
    have := hsz
    rw [show s.plain.varTypes Tryz.checked.prog = [] from e, List.append_nil, List.append_nil] at this
    exact this
  refine (hw H enc W base args ds p hval hA hsz').mono fun e W' ⟨he, hb⟩ => ?_
  subst he
  have hf := hfn H ds hlen
  refine ⟨_, rfl, ds, [], _, [], p, [], hW', ?_, ?_, ?_, hb.frame _, fun h => by cases h⟩
  · rw [hf, hres]
    exact trodAll_mk1 (shut_bool under_bool _)
  · rw [hf]
    exact trodAll_below laidOut hb hread hA hlt
  · rw [hf, hvars]
    rfl
end Go.Proofs.YtnbcbipigiopbaaGreatDoor.Frame
/-
  Small lemmas that every walk of this seat uses: 'Ext w w'': nothing that was there has turned. No conditions.
-/
namespace Go.Proofs.YtnbcbipigiopbaaGreatDoor
open Go.RowKit

/-- w' is w with new blocks at most. -/
def Ext (w w' : World) : Prop := Below w.heap.size w w'

theorem Ext.refl (w : World) : Ext w w := Below.refl _ _
theorem Ext.trans {a b c : World} (h : Ext a b) (k : Ext b c) : Ext a c := Below.trans h (Below.mono k h.size)
theorem Ext.alloc {a w : World} (h : Ext a w) (o : Obj) : Ext a (w.alloc o) := Below.alloc h h.size o
theorem Ext.drew {a w : World} (h : Ext a w) : Ext a w.drew := Below.drew h
theorem Ext.drewN {a w : World} (h : Ext a w) (n : Nat) : Ext a (w.drewN n) := ⟨h.os, h.tape, h.output, h.size, h.block⟩
theorem belowDrewN {B : Nat} {a w : World} (h : Below B a w) (n : Nat) : Below B a (w.drewN n) := ⟨h.os, h.tape, h.output, h.size, h.block⟩
theorem Ext.setCell {a w : World} (h : Ext a w) {p : Addr} (hp : a.heap.size ≤ p.block) (u : Value) : Ext a (w.setCell p u) := Below.setCell h hp u
theorem Ext.size {a w : World} (h : Ext a w) : a.heap.size ≤ w.heap.size := Below.size h
theorem Ext.cell {a w : World} (h : Ext a w) {p : Addr} {v : Value} (hc : a.cell? p = some v) : w.cell? p = some v :=
  (Below.cell h (World.block_lt_of_cell? a _ hc)).trans hc
theorem Ext.cells {a w : World} (h : Ext a w) (b o : Nat) (hb : b < a.heap.size) : w.cell? ⟨b, o, none⟩ = a.cell? ⟨b, o, none⟩ := Below.cell (p := ⟨b, o, none⟩) h hb
theorem Ext.frozens {a w : World} (h : Ext a w) (b o : Nat) (hb : b < a.heap.size) : w.frozen? ⟨b, o, none⟩ = a.frozen? ⟨b, o, none⟩ := Below.frozen (p := ⟨b, o, none⟩) h hb
theorem Ext.below {a w : World} (h : Ext a w) : Below a.heap.size a w := h
theorem Ext.ofGrown {a b w : World} {row : Option Nat} (h : Ext a b) (hg : b.grownBy w row) (hr : ∀ k, row = some k → a.heap.size ≤ k) : Ext a w := Below.grown h hg h.size hr

/-- What a region that draws its order keeps (for 'go_region_held3'): the old cells, and that nothing old has turned. -/
theorem held_start (w : World) : (∀ b o, b < w.heap.size → w.drew.cell? ⟨b, o, none⟩ = w.cell? ⟨b, o, none⟩) ∧ Ext w w.drew := ⟨fun _ _ _ => rfl, (Ext.refl w).drew⟩
theorem held_next {w w1 w2 : World} (h : Ext w w1) (k : Ext w1 w2) : (∀ b o, b < w.heap.size → w2.cell? ⟨b, o, none⟩ = w.cell? ⟨b, o, none⟩) ∧ Ext w w2 := ⟨fun b o hb => (h.trans k).cells b o hb, h.trans k⟩
theorem noneBelow_succ {p : Nat → Bool} {k : Nat} (h : ∀ j, j < k → p j = false) (hk : p k = false) : ∀ j, j < k + 1 → p j = false := fun j hj => by
  rcases Nat.lt_succ_iff_lt_or_eq.1 hj with h' | rfl
  · exact h j h'
  · exact hk
theorem ret_val {a b : Value} (h : a = b) : Ending.returned a = .returned b := by rw [h]
theorem ret_bool {a b : Bool} (h : a = b) : Ending.returned (.bool a) = .returned (.bool b) := by rw [h]
theorem ret_int {k : IntKind} {a b : Int} (h : a = b) : Ending.returned (.int k a) = .returned (.int k b) := by rw [h]
end Go.Proofs.YtnbcbipigiopbaaGreatDoor
/-
  A region that draws its order, each of whose operations leaves a value that does not hang on the order: one walk in the order of the text serves every order.
  No conditions.
-/
namespace Go.Proofs.YtnbcbipigiopbaaGreatDoor
open Go.RowKit

section
variable {P : Program} {ops : Array Oper} {S : World → Prop} {md : Region.Mode}

/-- What an operation's run leaves: the value v, and S of the world behind it. -/
def leaves (P : Program) (S : World → Prop) (v : Value) : Result Next → Prop
  | .ok (.value u) w' => u = v ∧ S w'
  | .ok .skip w' => undef = v ∧ S w'
  | .ok (.enter f args) w' => Calls P f args w' fun e w'' => e = .returned v ∧ S w''
  | .ok (.row row args) w' => Rows P row args w' fun u w'' => u = v ∧ S w''
  | _ => False

/-- In state a, in every world that meets S, operation o leaves v, and S holds behind it. -/
def Settles (P : Program) (ops : Array Oper) (S : World → Prop) (o : Oper) (v : Value) (a : Act) : Prop :=
  (Region.wanted o (yielded ops a.tmps) = true ∧ ∀ w, S w → leaves P S v ((execOp a.eval o).run P w)) ∨
  (Region.wanted o (yielded ops a.tmps) = false ∧ v = undef)

theorem Settles.wpOp {i : Nat} {o : Oper} {v : Value} {a : Act} {Q : Exit → Act → World → Prop} (hi : ops[i]? = some o) (hy : Settles P ops S o v a)
    {K : Act → World → Prop} {w : World} (hS : S w) (h : ∀ w', S w' → K (a.put o.dst v) w') : wpOp P ops Q i K a w := by
  unfold Go.wpOp
  simp only [hi]
  rcases hy with ⟨hw, hv⟩ | ⟨hw, rfl⟩
  · simp only [hw, if_true]
    refine .inl ?_
    have hl := hv w hS
    unfold Oper.wp
    generalize (execOp a.eval o).run P w = r at *
    cases r with
    | ok n w' =>
      cases n <;> simp only [leaves, Oper.upon] at hl ⊢
      case value u => rw [hl.1]; exact h w' hl.2
      case skip => rw [hl.1]; exact h w' hl.2
      case enter f args =>
        refine hl.mono fun e w'' ⟨he, hS'⟩ => ?_
        subst he
        exact h w'' hS'
      case row row args =>
        refine hl.mono fun u w'' ⟨he, hS'⟩ => ?_
        subst he
        exact h w'' hS'
    | halt x w' => exact hl.elim
  · simp only [hw, Bool.false_eq_true, if_false]
    exact h w hS

theorem Settles.of_same {o : Oper} {v : Value} {a a' : Act} (hy : Settles P ops S o v a) (he : execOp a'.eval o = execOp a.eval o)
    (hw : Region.wanted o (yielded ops a'.tmps) = Region.wanted o (yielded ops a.tmps)) : Settles P ops S o v a' := by
  unfold Settles at *
  rw [he, hw]
  exact hy

/-- Whatever order is picked from here on, every operation leaves a value that does not hang on it. -/
def wpAnyD (P : Program) (md : Region.Mode) (ops : Array Oper) (S : World → Prop) (K : Act → Prop) : Nat → Array Bool → Act → Prop
  | 0, listed, a => Region.ready md ops listed = [] ∧ K a
  | fuel + 1, listed, a =>
    (Region.ready md ops listed = [] → K a) ∧
    ∀ j ∈ Region.ready md ops listed, ∃ o v, ops[j]? = some o ∧ Settles P ops S o v a ∧ wpAnyD P md ops S K fuel (listed.setIfInBounds j true) (a.put o.dst v)

theorem wpAny_of_det {Q : Exit → Act → World → Prop} {K : Act → Prop} (hK : ∀ a, K a → ∀ w, S w → Q .normal a w) :
    ∀ (fuel : Nat) (listed : Array Bool) (a : Act), wpAnyD P md ops S K fuel listed a → ∀ w, S w → wpAny P md ops Q fuel listed a w
  | 0, _, a, h, w, hS => ⟨h.1, hK a h.2 w hS⟩
  | fuel + 1, _, a, h, w, hS => ⟨fun h0 => hK a (h.1 h0) w hS, fun j hj => by
      obtain ⟨o, v, ho, hy, hn⟩ := h.2 j hj
      exact hy.wpOp ho hS fun w' hS' => wpAny_of_det hK fuel _ _ hn w' hS'⟩

theorem wpAnyD_first {K : Act → Prop} {i : Nat} {oi : Oper} {v : Value} (hi : ops[i]? = some oi) (hsel : ∀ (j : Nat) (o : Oper) cs b, ops[j]? = some o → o.op ≠ .select cs b) :
    ∀ (fuel : Nat) (listed : Array Bool) (a : Act),
      (∀ j oj, ops[j]? = some oj → j ≠ i → listed.getD j true = false → (∀ e ∈ oj.after, Region.binds md e = true → e.on ≠ i) → oi.apart ops oj = true) →
      i ∈ Region.ready md ops listed → Settles P ops S oi v a →
      wpAnyD P md ops S K fuel (listed.setIfInBounds i true) (a.put oi.dst v) → wpAnyD P md ops S K (fuel + 1) listed a := by
  intro fuel
  induction fuel with
  | zero =>
    intro listed a _ hr hy H
    refine ⟨fun h => (by rw [h] at hr; cases hr), fun j hj => ?_⟩
    by_cases hji : j = i
    · subst hji; exact ⟨oi, v, hi, hy, H⟩
    · have := ready_mono hj hji
      rw [H.1] at this
      cases this
  | succ fuel ih =>
    intro listed a hfree hr hy H
    refine ⟨fun h => (by rw [h] at hr; cases hr), fun j hj => ?_⟩
    by_cases hji : j = i
    · subst hji; exact ⟨oi, v, hi, hy, H⟩
    · obtain ⟨oj', u, hoj', hyj, hn⟩ := H.2 j (ready_mono hj hji)
      obtain ⟨hjun, oj, hoj, hall⟩ := mem_ready.1 hj
      obtain rfl : oj' = oj := Option.some.inj (hoj'.symm.trans hoj)
      have hnot : ∀ e ∈ oj'.after, Region.binds md e = true → e.on ≠ i := fun e he hb heq => by
        have h1 := hall e he hb
        have h0 := (mem_ready.1 hr).1
        rw [heq] at h1
        rcases Nat.lt_or_ge i listed.size with h' | h'
        · simp [h'] at h0 h1; rw [h0] at h1; cases h1
        · simp [Array.getElem?_eq_none h'] at h1
      obtain ⟨h1, h2, h3⟩ := Oper.apart_spec (hfree j oj' hoj hji hjun hnot)
      have hyj' : Settles P ops S oj' u a := hyj.of_same (execOp_put oj' (fun cs b => hsel j oj' cs b hoj) a oi.dst v h1).symm (wanted_put oj' a oi.dst v h1).symm
      have hyi' : Settles P ops S oi v (a.put oj'.dst u) := hy.of_same (execOp_put oi (fun cs b => hsel i oi cs b hi) a oj'.dst u h3) (wanted_put oi a oj'.dst u h3)
      have hfree' : ∀ k ok, ops[k]? = some ok → k ≠ i → (listed.setIfInBounds j true).getD k true = false →
          (∀ e ∈ ok.after, Region.binds md e = true → e.on ≠ i) → oi.apart ops ok = true := fun k ok hk hki hun hno => by
        refine hfree k ok hk hki ?_ hno
        by_cases hjk : j = k
        · subst hjk; exact hjun
        · rw [getD_set_ne true hjk] at hun; exact hun
      refine ⟨oj', u, hoj, hyj', ih (listed.setIfInBounds j true) _ hfree' (ready_mono hr (Ne.symm hji)) hyi' ?_⟩
      rw [Array.setIfInBounds_comm _ _ hji, ← Act.put_comm a v u h2]
      exact hn

/-- The operations in the order of the text, each with the value that it leaves; behind the last one K holds of the frame. -/
def detGo (P : Program) (ops : Array Oper) (S : World → Prop) (K : Act → Prop) : List Oper → Act → Prop
  | [], a => K a
  | o :: os, a => ∃ v, Settles P ops S o v a ∧ detGo P ops S K os (a.put o.dst v)

/-- The order of the text is allowed, and whoever comes up may be taken first. -/
def tidyGo (md : Region.Mode) (ops : Array Oper) : Nat → Nat → Array Bool → Bool
  | 0, _, listed => (Region.ready md ops listed).isEmpty
  | n + 1, i, listed => Region.free md ops listed i && (Region.ready md ops listed).contains i && tidyGo md ops n (i + 1) (listed.setIfInBounds i true)

theorem det_sound {K : Act → Prop} (hs : Region.noSelect ops = true) : ∀ (os : List Oper) (i : Nat) (listed : Array Bool) (a : Act),
    (∀ k, os[k]? = ops[i + k]?) → tidyGo md ops os.length i listed = true → detGo P ops S K os a → wpAnyD P md ops S K os.length listed a
  | [], i, listed, a, _, ht, h => by
    simp only [tidyGo, List.length_nil, List.isEmpty_iff] at ht
    exact ⟨ht, h⟩
  | o :: os, i, listed, a, hops, ht, ⟨v, hy, h⟩ => by
    simp only [List.length_cons, tidyGo, Bool.and_eq_true] at ht
    obtain ⟨⟨hf, hr⟩, ht⟩ := ht
    have ho : ops[i]? = some o := by have := hops 0; simpa using this.symm
    refine wpAnyD_first ho (Region.noSelect_spec hs) os.length listed a (Region.free_spec ho hf) (by simpa using hr) hy ?_
    exact det_sound hs os (i + 1) _ _ (fun k => by have := hops (k + 1); simpa [Nat.add_assoc, Nat.add_comm 1 k] using this) ht h

/-- THE LAW. -/
theorem wp_region_det (S : World → Prop) {id : Nat} {l : List Oper} {Q : Exit → Act → World → Prop} {a : Act} {w : World} (hm : P.follows .mixedOrders = true)
    (hs : (Region.noSelect l.toArray && tidyGo .any l.toArray l.length 0 (Array.replicate l.length false)) = true)
    (hS : S w.drew) (h : detGo P l.toArray S (fun a' => ∀ w', S w' → Q .normal a' w') l a) : (Code.region id l.toArray true).wp P Q a w := by
  rw [Bool.and_eq_true] at hs
  refine wp_region_any hm ?_
  have := wpAny_of_det (Q := Q) (fun a' hK w' hS' => hK w' hS') _ _ _ (det_sound (md := .any) hs.1 l 0 _ a (fun k => by simp) hs.2 h) _ hS
  simpa using this

section
variable {K : Act → Prop} {o : Oper} {os : List Oper} {a : Act} {v : Value}
theorem det_end (h : K a) : detGo P ops S K [] a := h
/-- What the walk of one operation ends in. -/
def detPost (d : Tmp) (v : Value) (S : World → Prop) (ds : List Deferred) : Exit → Act → World → Prop
  | .normal, a', w' => a'.tmps[d]? = some v ∧ a'.defers = ds ∧ S w'
  | _, _, _ => False

theorem put_at {a : Act} {t : Tmp} {u v : Value} (h : (a.put (some t) u).tmps[t]? = some v) : u = v := by
  simp only [Act.put, Array.getElem?_setIfInBounds_self] at h
  split at h
  · exact Option.some.inj h
  · cases h

theorem detPost_out {d : Tmp} {v : Value} {ds : List Deferred} (h : LetsOut (detPost d v S ds)) : False := by
  obtain ⟨_, _, h⟩ := h
  exact h.elim

/-- An operation that is walked: whatever it is. -/
theorem det_op {d : Tmp} (hd : o.dst = some d) (hw : Region.wanted o (yielded ops a.tmps) = true) (h : ∀ w, S w → wpList P ops (detPost d v S a.defers) [o] a w)
    (hn : detGo P ops S K os (a.put o.dst v)) : detGo P ops S K (o :: os) a := by
  refine ⟨v, .inl ⟨hw, fun w hS => ?_⟩, hn⟩
  have hl := h w hS
  unfold wpList at hl
  rw [if_pos hw] at hl
  rcases hl with hl | ⟨_, hl⟩
  · unfold Oper.wp at hl
    generalize (execOp a.eval o).run P w = r at *
    cases r with
    | ok n w' =>
      cases n <;> simp only [leaves, Oper.upon, hd] at hl ⊢
      case value u => exact ⟨put_at hl.1, hl.2.2⟩
      case skip => exact ⟨put_at hl.1, hl.2.2⟩
      case defer x =>
        have := congrArg List.length hl.2.1
        simp [Act.put] at this
      case enter f args =>
        refine hl.mono fun e w'' he => ?_
        cases e with
        | returned u => exact ⟨by rw [put_at he.1], he.2.2⟩
        | panicked c => exact he.elim
        | outgrown => exact (detPost_out he).elim
      case row row args => exact hl.mono fun u w'' he => ⟨put_at he.1, he.2.2⟩
    | halt x w' =>
      cases x <;> simp only [leaves, Oper.upon] at hl ⊢
      case panic u => exact hl
  · exact (detPost_out hl).elim
/-- A guard that is not decided: both ways. -/
theorem det_guard {g : Nat} {want X : Bool} (_hgd : o.guard = some (g, want)) (_hy : yielded ops a.tmps g = some X) (ht : X = true → detGo P ops S K (o :: os) a) (hf : X = false → detGo P ops S K (o :: os) a) :
    detGo P ops S K (o :: os) a := by
  cases X
  · exact hf rfl
  · exact ht rfl
/-- An operation that does not come up. -/
theorem det_skip (hw : Region.wanted o (yielded ops a.tmps) = false) (hn : detGo P ops S K os (a.put o.dst undef)) : detGo P ops S K (o :: os) a :=
  ⟨undef, .inr ⟨hw, rfl⟩, hn⟩
end
/-- What a region keeps: the cells that stood at its beginning; nothing that stood has turned. -/
abbrev Stood (w w' : World) : Prop := (∀ b o, b < w.heap.size → w'.cell? ⟨b, o, none⟩ = w.cell? ⟨b, o, none⟩) ∧ Ext w w'
theorem Stood.start (w : World) : Stood w w.drew := held_start w
theorem Stood.of {w w' : World} (h : Ext w w') : Stood w w' := ⟨fun b o hb => h.cells b o hb, h⟩
/-- Only draws. -/
abbrev Drawn (w w' : World) : Prop := ∃ n, w' = w.drewN n
theorem Drawn.start (w : World) : Drawn w w.drew := ⟨1, rfl⟩
theorem Drawn.trans {a b c : World} (h : Drawn a b) (k : Drawn b c) : Drawn a c := by
  obtain ⟨n, rfl⟩ := h
  obtain ⟨m, rfl⟩ := k
  exact ⟨n + m, by simp⟩
theorem Drawn.ext {w w' : World} (h : Drawn w w') : Ext w w' := by
  obtain ⟨n, rfl⟩ := h
  exact (Ext.refl w).drewN n
theorem Stood.next {W w w' : World} (h : Stood W w) (k : Ext w w') : Stood W w' := .of (h.2.trans k)
end
end Go.Proofs.YtnbcbipigiopbaaGreatDoor
/-
  Contracts of the small functions on numbers: within, power.
-/
namespace Go.Proofs.YtnbcbipigiopbaaGreatDoor
open Go.RowKit

theorem within_same (n low high : Int) (w : World) : Calls Tryz.prog 31 #[.int .i64 n, .int .i64 low, .int .i64 high] w fun e w' => e = .returned (.bool (decide (low ≤ n) && decide (n ≤ high))) ∧ w' = w := by
  by_cases h1 : low ≤ n
  · have e : decide (low ≤ n) = true := by simpa using h1
    rw [e]
    go_enter Tryz.func31, Tryz.ntmps31
    go_wp2_with fail
    go_ret
    exact ⟨ret_bool (by simp), rfl⟩
  · have e : decide (low ≤ n) = false := by simpa using h1
    rw [e]
    go_enter Tryz.func31, Tryz.ntmps31
    go_wp2_with fail
    go_ret
    exact ⟨ret_bool (by simp), rfl⟩

/-- A number lies within bounds: behind a name, so that the walk's tests stay whole. -/
def rngB (n low high : Int) : Bool := decide (low ≤ n) && decide (n ≤ high)
theorem within_rng (n low high : Int) (w : World) : Calls Tryz.prog 31 #[.int .i64 n, .int .i64 low, .int .i64 high] w fun e w' => e = .returned (.bool (rngB n low high)) ∧ w' = w := within_same n low high w
theorem within_any (n low high : Int) (w : World) : Calls Tryz.prog 31 #[.int .i64 n, .int .i64 low, .int .i64 high] w fun e w' => e = .returned (.bool (decide (low ≤ n) && decide (n ≤ high))) ∧ Ext w w' :=
  (within_same n low high w).mono fun _ _ ⟨h, k⟩ => ⟨h, by rw [k]; exact Ext.refl _⟩
theorem within_yes' {n low high : Int} (h1 : low ≤ n) (h2 : n ≤ high) (w : World) : Calls Tryz.prog 31 #[.int .i64 n, .int .i64 low, .int .i64 high] w fun e w' => e = .returned (.bool true) ∧ w' = w :=
  (within_same n low high w).mono fun _ _ ⟨h, k⟩ => ⟨by rw [h]; simp [h1, h2], k⟩
theorem within_no' {n low high : Int} (h : n < low ∨ high < n) (w : World) : Calls Tryz.prog 31 #[.int .i64 n, .int .i64 low, .int .i64 high] w fun e w' => e = .returned (.bool false) ∧ w' = w :=
  (within_same n low high w).mono fun _ _ ⟨h', k⟩ => ⟨by rw [h']; exact ret_bool (by simp; omega), k⟩
theorem within_yes {n low high : Int} (h1 : low ≤ n) (h2 : n ≤ high) (w : World) : Calls Tryz.prog 31 #[.int .i64 n, .int .i64 low, .int .i64 high] w fun e w' => e = .returned (.bool true) ∧ Ext w w' :=
  (within_any n low high w).mono fun _ _ ⟨h, k⟩ => ⟨by rw [h]; simp [h1, h2], k⟩
theorem within_no {n low high : Int} (h : n < low ∨ high < n) (w : World) : Calls Tryz.prog 31 #[.int .i64 n, .int .i64 low, .int .i64 high] w fun e w' => e = .returned (.bool false) ∧ Ext w w' :=
  (within_any n low high w).mono fun _ _ ⟨h', k⟩ => ⟨by rw [h']; exact ret_bool (by simp; omega), k⟩

/-- A power, behind a name: the walk's simp does not open it. -/
def pw (b n : Nat) : Nat := b ^ n
theorem pw_mono {b : Nat} (hb : 0 < b) {i j : Nat} (h : i ≤ j) : pw b i ≤ pw b j := Nat.pow_le_pow_right hb h
theorem pw_succ (b k : Nat) : ((pw b (k + 1) : Nat) : Int) = (pw b k : Int) * (b : Int) := by rw [← Int.natCast_mul]; rfl

theorem power_same (b n : Nat) (hb : 0 < b) (hn : n ≤ 100) (hp : pw b n ≤ 4611686018427387904) (w : World) :
    Calls Tryz.prog 128 #[.int .i64 b, .int .i64 n] w fun e w' => e = .returned (.int .i64 (pw b n : Int)) ∧ w' = w := by
  go_enter Tryz.func128, Tryz.ntmps128
  go_wp2_with fail
  go_loop [1, 5] (fun m out => ∃ k : Nat, k ≤ n ∧ m = .int .i64 ((n - k : Nat) : Int) ∧ out = .int .i64 (pw b k : Int)) (fun m _ => (intOf m).toNat)
  case atStart => exact ⟨0, Nat.zero_le _, by simp, by simp [pw]⟩
  case round =>
    obtain ⟨k, hk, rfl, rfl⟩ := hrel
    by_cases hlt : k < n
    · have h0 : (0 : Int) < ((n - k : Nat) : Int) := by omega
      have h1 : ((n - k : Nat) : Int) ≤ 100 := by omega
      have hm : Hid (wrap64 ((pw b k : Int) * (b : Int)) = (pw b (k + 1) : Int)) := by
        have h3 : pw b (k + 1) ≤ pw b n := pw_mono hb hlt
        have h4 := pw_succ b k
        rw [← h4]
        exact IntWalk.wrap64_in _ (by omega)
      go_wp2_with fail
      go_round
      case rel => exact ⟨k + 1, hlt, by go_num, by rw [hm.out]⟩
      case measure => simp [intOf]; omega
    · obtain rfl : k = n := by omega
      go_wp2_with fail
      go_ret
      exact ⟨rfl, rfl⟩

theorem power_any (b n : Nat) (hb : 0 < b) (hn : n ≤ 100) (hp : pw b n ≤ 4611686018427387904) (w : World) :
    Calls Tryz.prog 128 #[.int .i64 b, .int .i64 n] w fun e w' => e = .returned (.int .i64 (pw b n : Int)) ∧ Ext w w' :=
  (power_same b n hb hn hp w).mono fun _ _ ⟨h, k⟩ => ⟨h, by rw [k]; exact Ext.refl _⟩

theorem power_int {b n : Int} (hb : 0 < b) (h0 : 0 ≤ n) (hn : n ≤ 100) (hp : pw b.toNat n.toNat ≤ 4611686018427387904) (w : World) :
    Calls Tryz.prog 128 #[.int .i64 b, .int .i64 n] w fun e w' => e = .returned (.int .i64 (pw b.toNat n.toNat : Int)) ∧ Ext w w' := by
  obtain ⟨b, rfl⟩ := Int.eq_ofNat_of_zero_le (Int.le_of_lt hb)
  obtain ⟨n, rfl⟩ := Int.eq_ofNat_of_zero_le h0
  exact power_any b n (by omega) (by omega) hp w

end Go.Proofs.YtnbcbipigiopbaaGreatDoor
