/-
  The memory of the reference's matcher: a map from the lengths of a pattern's and a name's ends to what these ends say of each other. No conditions but bounds.
-/
import Derived.Test.YtnnoeckmkjhdbaaDoorGlK
import Derived.Test.YtnnoeckmkjhdbaaDoorMapR
import Derived.WideKeyPair
namespace Go.Proofs.YtnnoeckmkjhdbaaDoor
open Go.RowKit Go.PlainAid
open Go.Maps (Keyed)
open Go.WideMaps (ArrKey keyOf_pair)

def valV (p : ByteArray) : Prop := (parseV p).isSome = true
/-- What a pattern says of a text; of what is no pattern: no. -/
def ansV (p n : ByteArray) : Bool := match parseV p with | some l => allB l n | none => false
theorem ans_is {p n : ByteArray} {l : List Tok} (h : parseV p = some l) : ansV p n = allB l n := by
  unfold ansV
  rw [h]
theorem ans_end {p n : ByteArray} (h0 : p.size = 0) (hv : valV p) : ansV p n = decide (n.size = 0) := by
  unfold valV at hv
  obtain ⟨l, hl⟩ := Option.isSome_iff_exists.1 hv
  rw [ans_is hl, parseV_nil h0 hl, allB_nil]
theorem ans_cons {p : ByteArray} (h0 : p.size ≠ 0) (hv : valV p) : ∃ t r, nextV p = some (t, r) ∧ valV r ∧ ∀ n, ansV p n =
    if t.many = true then ansV r n || (decide (n.size ≠ 0) && (t.deep || !(bt n 0 == 47)) && ansV p (suf n 1))
    else decide (n.size ≠ 0) && t.set (bt n 0) && ansV r (suf n 1) := by
  unfold valV at hv
  obtain ⟨l, hl⟩ := Option.isSome_iff_exists.1 hv
  obtain ⟨t, r, l', h1, h2, h3, _⟩ := parseV_cons h0 hl
  refine ⟨t, r, h1, by unfold valV; rw [h2]; rfl, fun n => ?_⟩
  subst h3
  rw [ans_is hl, ans_is h2, ans_is h2, ans_is hl]
  exact allB_step t l' n
/-- Case by case, as the reference reads a pattern. -/
theorem ans_deep {p : ByteArray} (h : 1 < p.size) (h1 : bt p 0 = 42) (h2 : bt p 1 = 42) (hv : valV p) : valV (suf p 2) ∧ ∀ n, ansV p n = (ansV (suf p 2) n || (decide (n.size ≠ 0) && ansV p (suf n 1))) := by
  obtain ⟨t, r, hn, hr, hs⟩ := ans_cons (by omega) hv
  unfold nextV at hn
  rw [if_pos h1, if_pos ⟨h, h2⟩] at hn
  injection hn with hn
  injection hn with e1 e2
  subst e1 e2
  refine ⟨hr, fun n => ?_⟩
  rw [hs n]
  simp
theorem ans_star {p : ByteArray} (h : p.size ≠ 0) (h1 : bt p 0 = 42) (h2 : ¬ (1 < p.size ∧ bt p 1 = 42)) (hv : valV p) : valV (suf p 1) ∧ ∀ n, ansV p n = (ansV (suf p 1) n || ((decide (n.size ≠ 0) && !(bt n 0 == 47)) && ansV p (suf n 1))) := by
  obtain ⟨t, r, hn, hr, hs⟩ := ans_cons h hv
  unfold nextV at hn
  rw [if_pos h1, if_neg h2] at hn
  injection hn with hn
  injection hn with e1 e2
  subst e1 e2
  refine ⟨hr, fun n => ?_⟩
  rw [hs n]
  simp
theorem ans_any {p : ByteArray} (h : p.size ≠ 0) (h1 : bt p 0 = 63) (hv : valV p) : valV (suf p 1) ∧ ∀ n, ansV p n = ((decide (n.size ≠ 0) && !(bt n 0 == 47)) && ansV (suf p 1) (suf n 1)) := by
  obtain ⟨t, r, hn, hr, hs⟩ := ans_cons h hv
  unfold nextV at hn
  rw [if_neg (by omega), if_pos h1] at hn
  injection hn with hn
  injection hn with e1 e2
  subst e1 e2
  refine ⟨hr, fun n => ?_⟩
  rw [hs n]
  simp
theorem ans_set {p : ByteArray} (h : p.size ≠ 0) (h1 : bt p 0 = 91) (hv : valV p) : ∃ g r, setV (suf p 1) = some (g, r) ∧ valV r ∧ ∀ n, ansV p n = ((decide (n.size ≠ 0) && g (bt n 0)) && ansV r (suf n 1)) := by
  obtain ⟨t, r, hn, hr, hs⟩ := ans_cons h hv
  unfold nextV at hn
  rw [if_neg (by omega), if_neg (by omega), if_pos h1, Option.map_eq_some_iff] at hn
  obtain ⟨⟨g, r'⟩, h2, hn⟩ := hn
  injection hn with e1 e2
  subst e1 e2
  refine ⟨g, r', h2, hr, fun n => ?_⟩
  rw [hs n]
  simp
theorem ans_let {p : ByteArray} (h : p.size ≠ 0) (h1 : bt p 0 ≠ 42) (h2 : bt p 0 ≠ 63) (h3 : bt p 0 ≠ 91) (hv : valV p) : ∃ c r, letV p = some (c, r) ∧ valV r ∧ ∀ n, ansV p n = ((decide (n.size ≠ 0) && (bt n 0 == c)) && ansV r (suf n 1)) := by
  obtain ⟨t, r, hn, hr, hs⟩ := ans_cons h hv
  unfold nextV at hn
  rw [if_neg h1, if_neg h2, if_neg h3, Option.map_eq_some_iff] at hn
  obtain ⟨⟨g, r'⟩, h4, hn⟩ := hn
  injection hn with e1 e2
  subst e1 e2
  refine ⟨g, r', h4, hr, fun n => ?_⟩
  rw [hs n]
  simp
/-- Ends of a text. -/
def sufOf (P p : ByteArray) : Prop := p.size ≤ P.size ∧ p = suf P (P.size - p.size)
theorem sufOf_refl (P : ByteArray) : sufOf P P := ⟨Nat.le_refl _, by rw [Nat.sub_self, suf_zero]⟩
theorem sufOf_suf {P p : ByteArray} (h : sufOf P p) (k : Nat) (hk : k ≤ p.size) : sufOf P (suf p k) := by
  obtain ⟨h1, h2⟩ := h
  have e : (suf p k).size = p.size - k := suf_size p k
  refine ⟨by omega, ?_⟩
  rw [e]
  conv => lhs; rw [h2, suf_suf]
  congr 1
  omega
theorem sufOf_set {P p r : ByteArray} {g : Int → Bool} (h : sufOf P p) (h0 : p.size ≠ 0) (hs : setV (suf p 1) = some (g, r)) : sufOf P r ∧ r.size < p.size := by
  obtain ⟨h1, k, h2, h3, rfl⟩ := setV_rest hs
  have e1 := suf_size p 1
  exact ⟨sufOf_suf (sufOf_suf h 1 (by omega)) k h3, by omega⟩
theorem sufOf_let {P p r : ByteArray} {c : Int} (h : sufOf P p) (hs : letV p = some (c, r)) : sufOf P r ∧ r.size < p.size := by
  obtain ⟨h1, _, _, k, h2, h3, rfl⟩ := letV_rest hs
  exact ⟨sufOf_suf h k h3, h1⟩

/-- The key of two lengths. -/
def keyL (a d : Nat) : Lit := .string (keyBytes [.int .i64 (a : Int), .int .i64 (d : Int)])
theorem lit_wf {a : Nat} (h : a < 2 ^ 62) : (Lit.int .i64 (a : Int)).wf = true := by
  simp only [Lit.wf, IntKind.min, IntKind.max, IntKind.signed, IntKind.bits, Bool.and_eq_true, decide_eq_true_eq, if_true]
  omega
theorem keyL_inj {a d a' d' : Nat} (h1 : a < 2 ^ 62) (h2 : d < 2 ^ 62) (h3 : a' < 2 ^ 62) (h4 : d' < 2 ^ 62) (h : keyL a d = keyL a' d') : a = a' ∧ d = d' := by
  unfold keyL at h
  injection h with h
  have := Go.keyBytes_inj (l := [.int .i64 (a : Int), .int .i64 (d : Int)]) (l' := [.int .i64 (a' : Int), .int .i64 (d' : Int)]) ⟨rfl, rfl, trivial⟩ (by
    intro x hx
    rcases List.mem_cons.1 hx with rfl | hx
    · exact lit_wf h1
    · rcases List.mem_cons.1 hx with rfl | hx
      · exact lit_wf h2
      · cases hx) (by
    intro x hx
    rcases List.mem_cons.1 hx with rfl | hx
    · exact lit_wf h3
    · rcases List.mem_cons.1 hx with rfl | hx
      · exact lit_wf h4
      · cases hx) h
  injection this with e1 e2
  injection e2 with e2 _
  injection e1 with _ e1
  injection e2 with _ e2
  omega
theorem arrK : ArrKey Tryd.prog 45 3 2 := ⟨Tryd.underlying45, by kernel_rfl, by kernel_rfl, by kernel_rfl⟩
theorem keyedK : Keyed Tryd.prog 45 := Keyed.of_law arrK.law
theorem keyOfK {a d : Nat} (h1 : a < 2 ^ 62) (h2 : d < 2 ^ 62) : keyOf Tryd.prog 45 (.agg #[.int .i64 (a : Int), .int .i64 (d : Int)]) = some (keyL a d) :=
  keyOf_pair arrK Tryd.underlying3 ⟨Tryd.prog.types.size - 1, by kernel_rfl⟩ (lit_wf h1) (lit_wf h2)
/-- How many keys of a grid are there. -/
def cntG (A B : Nat) (f : Lit → Option Value) : Nat := (List.range ((A + 1) * (B + 1))).countP fun x => (f (keyL (x / (B + 1)) (x % (B + 1)))).isSome
theorem cntG_le (A B : Nat) (f : Lit → Option Value) : cntG A B f ≤ (A + 1) * (B + 1) := by
  unfold cntG
  have := List.countP_le_length (p := fun x => (f (keyL (x / (B + 1)) (x % (B + 1)))).isSome) (l := List.range ((A + 1) * (B + 1)))
  rwa [List.length_range] at this
theorem countP_more (q q' : Nat → Bool) (h : ∀ x, q x = true → q' x = true) : ∀ M, (List.range M).countP q ≤ (List.range M).countP q'
  | 0 => Nat.le_refl _
  | M + 1 => by
    have ih := countP_more q q' h M
    rw [List.range_succ, List.countP_append, List.countP_append, List.countP_singleton, List.countP_singleton]
    have := h M
    cases hq : q M with
    | false => simp; omega
    | true => rw [this hq]; simp; omega
theorem countP_one (q q' : Nat → Bool) (h : ∀ x, q x = true → q' x = true) (x0 : Nat) (h0 : q x0 = false) (h1 : q' x0 = true) : ∀ M, x0 < M → (List.range M).countP q + 1 ≤ (List.range M).countP q'
  | 0, hx => absurd hx (Nat.not_lt_zero _)
  | M + 1, hx => by
    rw [List.range_succ, List.countP_append, List.countP_append, List.countP_singleton, List.countP_singleton]
    by_cases e : x0 = M
    · subst e
      have := countP_more q q' h x0
      rw [h0, h1]
      simp
      omega
    · have ih := countP_one q q' h x0 h0 h1 M (by omega)
      have := h M
      cases hq : q M with
      | false => simp; omega
      | true => rw [this hq]; simp; omega
theorem cntG_set {A B a d : Nat} (ha : a ≤ A) (hd : d ≤ B) {f : Lit → Option Value} (v : Value) {c : Nat} (hc : c ≤ cntG A B f) : (if (f (keyL a d)).isSome = true then c else c + 1) ≤ cntG A B (setF f (keyL a d) v) := by
  have hm : ∀ x, (f (keyL (x / (B + 1)) (x % (B + 1)))).isSome = true → ((setF f (keyL a d) v) (keyL (x / (B + 1)) (x % (B + 1)))).isSome = true := fun x hx => by
    unfold setF
    split
    · rfl
    · exact hx
  split
  · exact Nat.le_trans hc (countP_more _ _ hm _)
  · rename_i hn
    have hlt : a * (B + 1) + d < (A + 1) * (B + 1) := by
      have := Nat.mul_le_mul_right (B + 1) ha
      rw [Nat.add_mul, Nat.one_mul]
      omega
    have e1 : (a * (B + 1) + d) / (B + 1) = a := by
      rw [Nat.mul_comm, Nat.mul_add_div (by omega), Nat.div_eq_of_lt (by omega), Nat.add_zero]
    have e2 : (a * (B + 1) + d) % (B + 1) = d := by
      rw [Nat.mul_comm, Nat.mul_add_mod, Nat.mod_eq_of_lt (by omega)]
    have := countP_one (fun x => (f (keyL (x / (B + 1)) (x % (B + 1)))).isSome) (fun x => ((setF f (keyL a d) v) (keyL (x / (B + 1)) (x % (B + 1)))).isSome) hm (a * (B + 1) + d) (by
      show (f (keyL ((a * (B + 1) + d) / (B + 1)) ((a * (B + 1) + d) % (B + 1)))).isSome = false
      rw [e1, e2]
      simpa using hn) (by
      show ((setF f (keyL a d) v) (keyL ((a * (B + 1) + d) / (B + 1)) ((a * (B + 1) + d) % (B + 1)))).isSome = true
      rw [e1, e2]
      unfold setF
      rw [if_pos rfl]
      rfl) _ hlt
    unfold cntG at hc ⊢
    omega
/-- What is kept is right. -/
def MemoF (P N : ByteArray) (f : Lit → Option Value) : Prop := ∀ a d v, a ≤ P.size → d ≤ N.size → f (keyL a d) = some v → v = .bool (ansV (suf P (P.size - a)) (suf N (N.size - d)))
/-- The map b in w, since w0. -/
def MemoS (P N : ByteArray) (b : Nat) (w0 w : World) : Prop := (∃ c f, MapF w Tryd.prog 45 b c f ∧ c ≤ cntG P.size N.size f ∧ MemoF P N f) ∧ Turn (fun x => x = b) w0 w
theorem MemoF.put {P N p n : ByteArray} {f : Lit → Option Value} (h : MemoF P N f) (hp : sufOf P p) (hn : sufOf N n) (h1 : P.size < 2 ^ 62) (h2 : N.size < 2 ^ 62) : MemoF P N (setF f (keyL p.size n.size) (.bool (ansV p n))) := by
  intro a d v ha hd hv
  unfold setF at hv
  split at hv
  · rename_i e
    obtain ⟨rfl, rfl⟩ := keyL_inj (by omega) (by omega) (by have := hp.1; omega) (by have := hn.1; omega) e
    rw [← hp.2, ← hn.2]
    injection hv with hv
    exact hv.symm
  · exact h a d v ha hd hv
theorem MemoF.get {P N p n : ByteArray} {f : Lit → Option Value} (h : MemoF P N f) (hp : sufOf P p) (hn : sufOf N n) {v : Value} (hv : f (keyL p.size n.size) = some v) : v = .bool (ansV p n) := by
  have := h p.size n.size v hp.1 hn.1 hv
  rwa [← hp.2, ← hn.2] at this
theorem MemoS.start {P N : ByteArray} (w : World) : MemoS P N w.heap.size (w.alloc (.map #[] 0)) (w.alloc (.map #[] 0)) :=
  ⟨⟨0, fun _ => none, mapF_made w _ _, Nat.zero_le _, fun _ _ _ _ _ h => by cases h⟩, Turn.refl _⟩
variable {P N : ByteArray} {b : Nat} {w0 w w' : World}
theorem MemoS.lt (h : MemoS P N b w0 w) : b < w.heap.size := by
  obtain ⟨⟨c, f, h1, _⟩, _⟩ := h
  exact h1.lt
/-- Seen from a later world. -/
theorem MemoS.since (h : MemoS P N b w0 w) : MemoS P N b w w := ⟨h.1, Turn.refl _⟩
theorem MemoS.back (h : MemoS P N b w0 w) {w1 : World} (hx : Ext w w1) (k : MemoS P N b w1 w') : MemoS P N b w0 w' := ⟨k.1, (h.2.thenExt hx).trans k.2 (fun _ e => .inl e)⟩
theorem MemoS.ext (h : MemoS P N b w0 w) (hx : Ext w w') : MemoS P N b w0 w' := by
  obtain ⟨⟨c, f, h1, h2⟩, ht⟩ := h
  exact ⟨⟨c, f, h1.ext hx, h2⟩, ht.thenExt hx⟩
theorem MemoS.alloc (h : MemoS P N b w0 w) (o : Obj) : MemoS P N b (w.alloc o) (w.alloc o) := (h.ext ((Ext.refl w).alloc o)).since
theorem MemoS.cellOf (h : MemoS P N b w0 w) {p : Addr} {v : Value} (hc : w0.cell? p = some v) (hn : p.block ≠ b) : w.cell? p = some v := h.2.cell hc hn
end Go.Proofs.YtnnoeckmkjhdbaaDoor
