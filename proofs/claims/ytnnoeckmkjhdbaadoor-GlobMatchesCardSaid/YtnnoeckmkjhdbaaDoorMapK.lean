/-
  A map of the call's own, at elements of any type: what each key gives, and how many entries there are. Over the kit's ownsMap with the elements held as they are.
-/
import Derived.Test.YtnnoeckmkjhdbaaDoorKit
import Derived.Maps.OwnOps
import Derived.Maps.OwnSet
import Derived.Maps.Views
namespace Go.Proofs.YtnnoeckmkjhdbaaDoor
open Go.Maps (Keyed)
open Go.WideShapes

def heldE (v : Value) : Option (DataW Value × List MemPlace) := some (.held v, [])
/-- Block b of w is a map of c entries; the key kl gives f kl. -/
def MapF (w : World) (P : Program) (k : TypeId) (b c : Nat) (f : Lit → Option Value) : Prop :=
  ∃ D : DataW Value, w.ownsMap P k heldE b c D ∧ Maps.Tidy D ∧ Maps.size D = c ∧ (∀ kl z, D.atKey kl z = match f kl with | some v => .held v | none => z) ∧ ∀ kl, Maps.has D kl = (f kl).isSome

variable {P : Program} {k : TypeId} {w : World} {b c : Nat} {f : Lit → Option Value}
theorem mapF_made (w : World) (P : Program) (k : TypeId) : MapF (w.alloc (.map #[] 0)) P k w.heap.size 0 (fun _ => none) :=
  ⟨.map [], World.ownsMap_made w P k heldE, Maps.tidy_empty, rfl, fun _ _ => rfl, fun _ => rfl⟩
theorem MapF.kept {w' : World} {row : Option Nat} (h : MapF w P k b c f) (hg : w.grownBy w' row) (hne : some b ≠ row) : MapF w' P k b c f := by
  obtain ⟨D, h1, h2⟩ := h
  exact ⟨D, h1.kept hg hne, h2⟩
theorem MapF.alloc (h : MapF w P k b c f) (o : Obj) : MapF (w.alloc o) P k b c f := h.kept (World.grownBy_alloc w o none) (by simp)
theorem MapF.lt (h : MapF w P k b c f) : b < w.heap.size := by
  obtain ⟨D, h1, _⟩ := h
  exact h1.lt
theorem ownsMap_tight {H : Type} {R : Value → Option (DataW H × List MemPlace)} {n : Nat} {D : DataW H} (h : w.ownsMap P k R b n D) : w.ownsMap P k R b (Maps.size D) D := by
  obtain ⟨es, clock, hb, F, hs, hD⟩ := h
  refine ⟨es, clock, hb, F, ?_, hD⟩
  rw [hD]
  simp [Maps.size, length_sorted]
open Classical in
/-- What stands behind a store. -/
noncomputable def setF (f : Lit → Option Value) (kl : Lit) (v : Value) : Lit → Option Value := fun x => if x = kl then some v else f x
theorem MapF.put {w' : World} {D : DataW Value} {n : Nat} (kl : Lit) (hk : WideAt.IsKeyLit kl) (v : Value) (hT : Maps.Tidy D) (hc : Maps.size D = c) (hf : ∀ kl z, D.atKey kl z = match f kl with | some v => .held v | none => z)
    (hh : ∀ kl, Maps.has D kl = (f kl).isSome) (h : w'.ownsMap P k heldE b n (D.put kl (.held v))) : MapF w' P k b (if (f kl).isSome then c else c + 1) (setF f kl v) := by
  have hs : Maps.size (D.put kl (.held v)) = if (f kl).isSome then c else c + 1 := by rw [Maps.size_put hT, hh, hc]
  refine ⟨_, by rw [← hs]; exact ownsMap_tight h, hT.put hk _, hs, fun x z => ?_, fun x => ?_⟩
  · unfold setF
    by_cases e : x = kl
    · rw [if_pos e, e]; exact Maps.atKey_put_same hT.isMap hk _ _
    · rw [if_neg e, Maps.atKey_put_other e, hf]
  · unfold setF
    by_cases e : x = kl
    · rw [if_pos e, e]; exact Maps.has_put_same hT.isMap hk _
    · rw [if_neg e, Maps.has_put_other e, hh]

section
variable {ops : Array Oper} {rest : List Oper} {o : Oper} {a : Act} {Q : Exit → Act → World → Prop}
/-- 'v, ok := m[k]'. -/
theorem wpList_lookupF_ok (w : World) (hg : o.guard = none) (m x : Operand) (t : TypeId) (hop : o.op = Op.lookup t m x true) (k e : TypeId) (K : Keyed P k) (ht : P.underlying t = some (.map k e)) {z : Value} (hz : (zeroValue e).run P w = .ok z w) (b c : Nat) (f : Lit → Option Value)
    (hm : a.eval m = .map (some b)) (h : MapF w P k b c f) (key : Value) (kl : Lit) (hx : a.eval x = key) (hkey : keyOf P k key = some kl)
    (hK : wpList P ops Q rest (a.put o.dst (.tuple #[(f kl).getD z, .bool (f kl).isSome])) w) : wpList P ops Q (o :: rest) a w := by
  obtain ⟨D, h1, _, _, hf, hh⟩ := h
  refine wpList_lookup_own_ok w hg m x t hop k e K ht heldE hz (.held z) [] rfl b c D hm h1 key kl hx hkey (fun v ps hv => ?_)
  have e1 : v = (f kl).getD z := by
    rw [hf] at hv
    unfold heldE at hv
    cases hq : f kl with
    | none => rw [hq] at hv; simp at hv; simp [hv]
    | some y => rw [hq] at hv; simp at hv; simp [hv]
  rw [e1, hh]
  exact hK
/-- 'm[k]'. -/
theorem wpList_lookupF (w : World) (hg : o.guard = none) (m x : Operand) (t : TypeId) (hop : o.op = Op.lookup t m x false) (k e : TypeId) (K : Keyed P k) (ht : P.underlying t = some (.map k e)) {z : Value} (hz : (zeroValue e).run P w = .ok z w) (b c : Nat) (f : Lit → Option Value)
    (hm : a.eval m = .map (some b)) (h : MapF w P k b c f) (key : Value) (kl : Lit) (hx : a.eval x = key) (hkey : keyOf P k key = some kl)
    (hK : wpList P ops Q rest (a.put o.dst ((f kl).getD z)) w) : wpList P ops Q (o :: rest) a w := by
  obtain ⟨D, h1, _, _, hf, hh⟩ := h
  refine wpList_plain hg fun K' hK' => ?_
  obtain ⟨v, ps, hrun, hv⟩ := h1.lookup K ht hz (zd := .held z) (zp := []) rfl hkey
  have e1 : v = (f kl).getD z := by
    rw [hf] at hv
    unfold heldE at hv
    cases hq : f kl with
    | none => rw [hq] at hv; simp at hv; simp [hv]
    | some y => rw [hq] at hv; simp at hv; simp [hv]
  rw [e1] at hrun
  unfold Oper.wp
  simp [execOp, hop, hm, hx, hrun, Result.andThen]
  exact hK' _ _ hK
/-- 'm[k] = v'. -/
theorem wpList_updateF (w : World) (hg : o.guard = none) (m x v : Operand) (t : TypeId) (hop : o.op = Op.mapUpdate t m x v) (k e : TypeId) (K : Keyed P k) (ht : P.underlying t = some (.map k e)) (b c : Nat) (f : Lit → Option Value)
    (hm : a.eval m = .map (some b)) (h : MapF w P k b c f) (hn : c < maxLen) (key val : Value) (kl : Lit) (hx : a.eval x = key) (hv : a.eval v = val) (hkey : keyOf P k key = some kl)
    (hK : ∀ w', MapF w' P k b (if (f kl).isSome then c else c + 1) (setF f kl val) → w.grownBy w' (some b) → wpList P ops Q rest (a.put o.dst undef) w') : wpList P ops Q (o :: rest) a w := by
  obtain ⟨D, h1, hT, hc, hf, hh⟩ := h
  refine wpList_mapUpdate_own w hg m x v t hop k e K ht heldE b c D hm h1 hn key val kl hx hv hkey (.held val) [] rfl (fun w' r1 r2 => hK w' ?_ r2)
  exact MapF.put kl (K.key hkey) val hT hc hf hh r1
/-- 'len(m)'. -/
theorem wpList_lenF (w : World) (hg : o.guard = none) (m : Operand) (t : TypeId) (hop : o.op = Op.call { callee := Callee.builtin Builtin.len, args := #[m], argTypes := #[t] }) (k e : TypeId) (ht : P.underlying t = some (.map k e)) (b c : Nat) (f : Lit → Option Value)
    (hm : a.eval m = .map (some b)) (h : MapF w P k b c f) (hK : wpList P ops Q rest (a.put o.dst (.int .i64 c)) w) : wpList P ops Q (o :: rest) a w := by
  obtain ⟨D, h1, _, hc, _⟩ := h
  exact wpList_len_own w hg m t hop k e ht heldE b c D hm h1 (by rw [hc]; exact hK)
end
end Go.Proofs.YtnnoeckmkjhdbaaDoor
