/-
  Maps of the call's own: what is deleted, loops over them, and maps that may be nil. Over the kit's ownsMap and ranges with the elements held as they are. No conditions.
-/
import Derived.Test.YtnnoeckmkjhdbaaDoorMapK
import Derived.Test.YtnnoeckmkjhdbaaDoorTurn
import Derived.Maps.RangeWalk
import Derived.StringKeys
namespace Go.Proofs.YtnnoeckmkjhdbaaDoor
open Go.Maps (Keyed)
open Go.WideShapes

def strL (s : ByteArray) : Lit := .string s.data.toList
theorem strL_inj {a b : ByteArray} (h : strL a = strL b) : a = b := by
  unfold strL at h
  injection h with h
  exact ByteArray.ext (Array.toList_inj.1 h)
variable {P : Program} {k : TypeId} {w : World} {b c : Nat} {f : Lit → Option Value}
theorem MapF.turn {w' : World} {D : Nat → Prop} (h : MapF w P k b c f) (ht : Turn D w w') (hn : ¬ D b) : MapF w' P k b c f := by
  obtain ⟨D, ⟨es, clock, hb, r⟩, h2⟩ := h
  exact ⟨D, ⟨es, clock, ht.heap hb hn, r⟩, h2⟩
theorem MapF.ext {w' : World} (h : MapF w P k b c f) (ht : Ext w w') : MapF w' P k b c f := h.turn (D := fun _ => False) ht.turn (fun x => x)
open Classical in
/-- What stands behind a 'delete'. -/
noncomputable def delF (f : Lit → Option Value) (kl : Lit) : Lit → Option Value := fun x => if x = kl then none else f x

/-- A loop over the map of block b by the iterator of block r: who is to come, and how many. -/
def RangeF (w : World) (P : Program) (k : TypeId) (b r c : Nat) (f : Lit → Option Value) (left : Lit → Bool) (cnt : Nat) : Prop :=
  ∃ D : DataW Value, w.ranges P k heldE b r c D left cnt ∧ Maps.Tidy D ∧ Maps.size D = c ∧ (∀ kl z, D.atKey kl z = match f kl with | some v => .held v | none => z) ∧ ∀ kl, Maps.has D kl = (f kl).isSome
variable {r : Nat} {left : Lit → Bool} {cnt : Nat}
theorem RangeF.map (h : RangeF w P k b r c f left cnt) : MapF w P k b c f := by
  obtain ⟨D, h1, h2⟩ := h
  exact ⟨D, h1.owns, h2⟩
theorem RangeF.turn {w' : World} {D : Nat → Prop} (h : RangeF w P k b r c f left cnt) (ht : Turn D w w') (hb : ¬ D b) (hr : ¬ D r) : RangeF w' P k b r c f left cnt := by
  obtain ⟨D, ⟨es, clock, since, seen, c0, h1, F, hs, hD, h2, rest⟩, h3⟩ := h
  exact ⟨D, ⟨es, clock, since, seen, c0, ht.heap h1 hb, F, hs, hD, ht.heap h2 hr, rest⟩, h3⟩
theorem RangeF.left_eq (h : RangeF w P k b r c f left cnt) : w.rangeLeft b r = cnt := by
  obtain ⟨D, h1, _⟩ := h
  exact h1.left_eq
theorem RangeF.lt (h : RangeF w P k b r c f left cnt) : r < w.heap.size := by
  obtain ⟨D, h1, _⟩ := h
  exact h1.lt
theorem RangeF.ne (h : RangeF w P k b r c f left cnt) : r ≠ b := by
  obtain ⟨D, h1, _⟩ := h
  exact h1.ne

/-- A map that may be nil. -/
def MapN (w : World) (P : Program) (k : TypeId) (p : Option Nat) (c : Nat) (f : Lit → Option Value) : Prop :=
  (p = none ∧ c = 0 ∧ ∀ kl, f kl = none) ∨ ∃ b, p = some b ∧ MapF w P k b c f
/-- A loop over a map that may be nil. -/
def RangeN (w : World) (P : Program) (k : TypeId) (p : Option Nat) (r c : Nat) (f : Lit → Option Value) (left : Lit → Bool) (cnt : Nat) : Prop :=
  (p = none ∧ c = 0 ∧ cnt = 0 ∧ (∀ kl, f kl = none) ∧ (∀ kl, left kl = false) ∧ ∃ x s y, w.heap[r]? = some (.mapIter none x s y)) ∨ ∃ b, p = some b ∧ RangeF w P k b r c f left cnt
def leftN (w : World) (p : Option Nat) (r : Nat) : Nat := match p with | none => 0 | some b => w.rangeLeft b r
variable {p : Option Nat}
theorem MapN.turn {w' : World} {D : Nat → Prop} (h : MapN w P k p c f) (ht : Turn D w w') (hn : ∀ b, p = some b → ¬ D b) : MapN w' P k p c f :=
  h.imp id fun ⟨b, hp, hm⟩ => ⟨b, hp, hm.turn ht (hn b hp)⟩
theorem MapN.ext {w' : World} (h : MapN w P k p c f) (ht : Ext w w') : MapN w' P k p c f := h.turn (D := fun _ => False) ht.turn (fun _ _ x => x)
theorem MapN.lt (h : MapN w P k p c f) : ∀ b, p = some b → b < w.heap.size := by
  intro b hb
  rcases h with ⟨rfl, _⟩ | ⟨b', rfl, h⟩
  · cases hb
  · cases hb
    exact h.lt
theorem RangeN.map (h : RangeN w P k p r c f left cnt) : MapN w P k p c f := by
  rcases h with ⟨h1, h2, _, h3, _⟩ | ⟨b, h1, h2⟩
  · exact .inl ⟨h1, h2, h3⟩
  · exact .inr ⟨b, h1, h2.map⟩
theorem RangeN.turn {w' : World} {D : Nat → Prop} (h : RangeN w P k p r c f left cnt) (ht : Turn D w w') (hb : ∀ b, p = some b → ¬ D b) (hr : ¬ D r) : RangeN w' P k p r c f left cnt := by
  rcases h with ⟨h1, h2, h3, h4, h5, x, s, y, h6⟩ | ⟨b, h1, h2⟩
  · exact .inl ⟨h1, h2, h3, h4, h5, x, s, y, ht.heap h6 hr⟩
  · exact .inr ⟨b, h1, h2.turn ht (hb b h1) hr⟩
theorem RangeN.ext {w' : World} (h : RangeN w P k p r c f left cnt) (ht : Ext w w') : RangeN w' P k p r c f left cnt := h.turn (D := fun _ => False) ht.turn (fun _ _ x => x) (fun x => x)
theorem RangeN.left_eq (h : RangeN w P k p r c f left cnt) : leftN w p r = cnt := by
  rcases h with ⟨rfl, _, h3, _⟩ | ⟨b, rfl, h2⟩
  · exact h3.symm
  · exact h2.left_eq
theorem RangeN.lt (h : RangeN w P k p r c f left cnt) : r < w.heap.size := by
  rcases h with ⟨_, _, _, _, _, x, s, y, h6⟩ | ⟨b, _, h2⟩
  · exact (Array.getElem?_eq_some_iff.1 h6).1
  · exact h2.lt
theorem run_next_nilN (w : World) (ty : TypeId) (r a b : Nat) (s : Array Nat) (h : w.heap[r]? = some (.mapIter none a s b)) :
    (Instr.next (.pointer (some ⟨r, 0, none⟩)) false ty).run P w = .ok (.tuple #[.bool false]) w := by
  simp only [Instr.next, getObj, Sem.run_bind, Sem.run, h, Result.andThen]
  rfl

section
variable {ops : Array Oper} {rest : List Oper} {o : Oper} {a : Act} {Q : Exit → Act → World → Prop}
/-- 'delete(m, k)'. -/
theorem wpList_deleteF (w : World) (hg : o.guard = none) (m x : Operand) (t k : TypeId) (hop : o.op = Op.call { callee := Callee.builtin Builtin.delete, args := #[m, x], argTypes := #[t, k] }) (e : TypeId) (K : Keyed P k) (ht : P.underlying t = some (.map k e)) (b c : Nat) (f : Lit → Option Value)
    (hm : a.eval m = .map (some b)) (h : MapF w P k b c f) (key : Value) (kl : Lit) (hx : a.eval x = key) (hkey : keyOf P k key = some kl)
    (hK : ∀ w', MapF w' P k b (c - (if (f kl).isSome then 1 else 0)) (delF f kl) → w.mapTurned w' b → wpList P ops Q rest (a.put o.dst (.tuple #[])) w') : wpList P ops Q (o :: rest) a w := by
  obtain ⟨D, h1, hT, hc, hf, hh⟩ := h
  refine wpList_delete_own w hg m x t k hop e K ht heldE b c D hm h1 key kl hx hkey (fun w' r1 r2 => hK w' ?_ r2)
  have hs : Maps.size (D.del kl) = c - (if (f kl).isSome then 1 else 0) := by
    have := Maps.size_del (k := kl) hT
    rw [hh, hc] at this
    omega
  refine ⟨_, by rw [← hs]; exact ownsMap_tight r1, hT.del kl, hs, fun x z => ?_, fun x => ?_⟩
  · unfold delF
    by_cases e : x = kl
    · rw [if_pos e, e]; exact Maps.atKey_del_same z
    · rw [if_neg e, Maps.atKey_del_other e, hf]
  · unfold delF
    by_cases e : x = kl
    · rw [if_pos e, e]; exact Maps.has_del_same
    · rw [if_neg e, Maps.has_del_other e, hh]
/-- 'v, ok := m[k]' where m may be nil. -/
theorem wpList_lookupN_ok (w : World) (hg : o.guard = none) (m x : Operand) (t : TypeId) (hop : o.op = Op.lookup t m x true) (k e : TypeId) (K : Keyed P k) (ht : P.underlying t = some (.map k e)) {z : Value} (hz : (zeroValue e).run P w = .ok z w) (p : Option Nat) (c : Nat) (f : Lit → Option Value)
    (hm : a.eval m = .map p) (h : MapN w P k p c f) (key : Value) (kl : Lit) (hx : a.eval x = key) (hkey : keyOf P k key = some kl)
    (hK : wpList P ops Q rest (a.put o.dst (.tuple #[(f kl).getD z, .bool (f kl).isSome])) w) : wpList P ops Q (o :: rest) a w := by
  rcases h with ⟨rfl, _, hf⟩ | ⟨b, rfl, h⟩
  · rw [hf] at hK
    refine wpList_plain hg fun K' hK' => ?_
    unfold Oper.wp
    simp [execOp, hop, hm, hx, Maps.look_nil true K ht hz hkey, Result.andThen]
    exact hK' _ _ hK
  · exact wpList_lookupF_ok w hg m x t hop k e K ht hz b c f hm h key kl hx hkey hK
/-- 'm[k]' where m may be nil. -/
theorem wpList_lookupN (w : World) (hg : o.guard = none) (m x : Operand) (t : TypeId) (hop : o.op = Op.lookup t m x false) (k e : TypeId) (K : Keyed P k) (ht : P.underlying t = some (.map k e)) {z : Value} (hz : (zeroValue e).run P w = .ok z w) (p : Option Nat) (c : Nat) (f : Lit → Option Value)
    (hm : a.eval m = .map p) (h : MapN w P k p c f) (key : Value) (kl : Lit) (hx : a.eval x = key) (hkey : keyOf P k key = some kl)
    (hK : wpList P ops Q rest (a.put o.dst ((f kl).getD z)) w) : wpList P ops Q (o :: rest) a w := by
  rcases h with ⟨rfl, _, hf⟩ | ⟨b, rfl, h⟩
  · rw [hf] at hK
    refine wpList_plain hg fun K' hK' => ?_
    unfold Oper.wp
    simp [execOp, hop, hm, hx, Maps.look_nil false K ht hz hkey, Result.andThen]
    exact hK' _ _ hK
  · exact wpList_lookupF w hg m x t hop k e K ht hz b c f hm h key kl hx hkey hK
/-- 'len(m)' where m may be nil. -/
theorem wpList_lenN (w : World) (hg : o.guard = none) (m : Operand) (t : TypeId) (hop : o.op = Op.call { callee := Callee.builtin Builtin.len, args := #[m], argTypes := #[t] }) (k e : TypeId) (ht : P.underlying t = some (.map k e)) (p : Option Nat) (c : Nat) (f : Lit → Option Value)
    (hm : a.eval m = .map p) (h : MapN w P k p c f) (hK : wpList P ops Q rest (a.put o.dst (.int .i64 c)) w) : wpList P ops Q (o :: rest) a w := by
  rcases h with ⟨rfl, rfl, hf⟩ | ⟨b, rfl, h⟩
  · refine wpList_plain hg fun K' hK' => ?_
    unfold Oper.wp
    simp [execOp, hop, resolve, invoke, builtin, hm, Maps.len_nil ht, Result.andThen]
    exact hK' _ _ hK
  · exact wpList_lenF w hg m t hop k e ht b c f hm h hK
/-- 'range m' where m may be nil. -/
theorem wpList_rangeN (w : World) (hg : o.guard = none) (m : Operand) (t : TypeId) (hop : o.op = Op.range t m) (k e : TypeId) (K : Keyed P k) (ht : P.underlying t = some (.map k e)) (p : Option Nat) (c : Nat) (f : Lit → Option Value)
    (hm : a.eval m = .map p) (h : MapN w P k p c f)
    (hK : ∀ w', RangeN w' P k p w.heap.size c f (fun kl => (f kl).isSome) c → Ext w w' → w'.heap.size = w.heap.size + 1 → wpList P ops Q rest (a.put o.dst (.pointer (some ⟨w.heap.size, 0, none⟩))) w') : wpList P ops Q (o :: rest) a w := by
  rcases h with ⟨rfl, rfl, hf⟩ | ⟨b, rfl, h⟩
  · refine wpList_plain hg fun K' hK' => ?_
    unfold Oper.wp
    simp [execOp, hop, hm, run_range_nilMap w t k e ht, Result.andThen]
    exact hK' _ _ (hK _ (.inl ⟨rfl, rfl, rfl, hf, fun kl => by show (f kl).isSome = false; rw [hf]; rfl, _, _, _, (MapKept.heap_alloc w _).1⟩) ((Ext.refl w).alloc _) (by simp))
  · obtain ⟨D, h1, hT, hc, hf, hh⟩ := h
    refine wpList_range_own w hg m t hop k e K ht heldE b c D hm h1 (fun w' r1 r2 r3 => hK w' (.inr ⟨b, rfl, D, ?_, hT, hc, hf, hh⟩) ((Ext.refl w).ofGrown r2 (fun _ e => by cases e)) r3)
    have e1 : Maps.has D = fun kl => (f kl).isSome := funext hh
    rw [e1, hc] at r1
    exact r1
/-- The step of a loop over a map with keys of type string, which may be nil. -/
theorem wpList_nextN (w : World) (hg : o.guard = none) (it : Operand) (hop : o.op = Op.next it false) (k : TypeId) (hk : P.underlying k = some .string) (p : Option Nat) (r c : Nat) (f : Lit → Option Value) (left : Lit → Bool) (cnt : Nat)
    (hit : a.eval it = .pointer (some ⟨r, 0, none⟩)) (h : RangeN w P k p r c f left cnt)
    (hDone : (∀ kl, left kl = false) → wpList P ops Q rest (a.put o.dst (.tuple #[.bool false])) w)
    (hMore : ∀ (x : ByteArray) (v : Value) (w' : World) (cnt' : Nat), left (strL x) = true → f (strL x) = some v → RangeN w' P k p r c f (fun z => left z && !z.sameKey (strL x)) cnt' → cnt' < cnt → w.grownBy w' (some r) → w'.heap.size = w.heap.size →
      (Instr.entry (.pointer (some ⟨r, 0, none⟩))).run P w' = .ok (.tuple #[.string x, v]) w' → wpList P ops Q rest (a.put o.dst (.tuple #[.bool true, .string x, v])) w') : wpList P ops Q (o :: rest) a w := by
  rcases h with ⟨rfl, rfl, rfl, hf, hl, x, s, y, hr⟩ | ⟨b, rfl, h⟩
  · refine wpList_plain hg fun K' hK' => ?_
    unfold Oper.wp
    simp [execOp, hop, hit, run_next_nilN w o.type r x y s hr, Result.andThen]
    exact hK' _ _ (hDone hl)
  · obtain ⟨D, h1, hT, hc, hf, hh⟩ := h
    refine wpList_next_ranges w hg it hop k (Maps.string_keyed hk) heldE Value.string (fun v : Value => v) (fun key kl hkey => by obtain ⟨s, rfl, _⟩ := WideMaps.string_of_keyOf hk hkey; exact ⟨s, rfl⟩) (fun v _ _ => ⟨v, rfl⟩) b r c D left cnt hit h1 (fun _ hl => hDone hl)
      (fun x v kl y w' cnt' hkey hlk hv hat hrg hlt hgr hsz hen => ?_)
    obtain ⟨s, e1, rfl, _⟩ := WideMaps.string_of_keyOf hk hkey
    cases e1
    have hy : y = (.held v, []) := by
      unfold heldE at hv
      cases hv
      rfl
    have hfv : f (strL x) = some v := by
      have h2 := hat (.held (.bool true))
      rw [hf] at h2
      have h3 := hat (.held (.bool false))
      rw [hf] at h3
      rw [hy] at h2 h3
      show f (.string x.data.toList) = some v
      cases hq : f (.string x.data.toList) with
      | none =>
        rw [hq] at h2 h3
        simp only at h2 h3
        rw [← h3] at h2
        simp at h2
      | some u =>
        rw [hq] at h2
        simp only at h2
        injection h2 with h2
        rw [h2]
    exact hMore x v w' cnt' hlk hfv (.inr ⟨b, rfl, D, hrg, hT, hc, hf, hh⟩) hlt hgr hsz hen
end
end Go.Proofs.YtnnoeckmkjhdbaaDoor
