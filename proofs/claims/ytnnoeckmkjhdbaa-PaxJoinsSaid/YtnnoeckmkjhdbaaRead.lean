/-
  What a readable argument is, opened level by level: a string, a number, a struct's fields, a slice's elements. No conditions.
-/
import Derived.Test.YtnnoeckmkjhdbaaFrame
import Derived.Deep.Slices
namespace Go.Proofs.Ytnnoeckmkjhdbaa
open Go.ChangeShapes Go.WideShapes Go.ChangeAt Go.RowKit Go.Deep

/-- The cells cs, at type t, read in W as a datum within the form's reach. -/
def Rd (W : World) (t : TypeId) (cs : List Value) : Prop :=
  ∃ (H : Type) (enc : TypeId × Value → H) (fuel : Nat) (d : DataW H) (ps : List MemPlace),
    DataW.trod enc Try.prog W 0 (fun _ => true) true fuel t cs = some (d, ps) ∧ ∀ n ∈ d.weights Try.prog t, n ≤ reachBytes

section
variable {W : World} {t : TypeId} {cs : List Value}

theorem Rd.ofArg {H : Type} {enc : TypeId × Value → H} {ts : List TypeId} {ds : List (DataW H)} {j : Nat} {v : Value} {d : DataW H} {p : List MemPlace}
    (h : DataW.Trod enc Try.prog W 0 (fun _ => true) true t v d p) (hsz : (DataW.weightsEach Try.prog ts ds).all (· ≤ reachBytes) = true) (ht : ts[j]? = some t) (hd : ds[j]? = some d) :
    Rd W t v.cells.toList := by
  obtain ⟨fuel, hf⟩ := h
  exact ⟨H, enc, fuel, d, p, hf, fun n hn => by simpa using List.all_eq_true.1 hsz n (DataW.weights_mem_each ht hd n hn)⟩

theorem Rd.int {k : IntKind} (hu : Try.prog.underlying t = some (.int k)) (h : Rd W t cs) : ∃ n, cs = [.int k n] ∧ (Lit.int k n).wf = true := by
  obtain ⟨H, enc, fuel, d, ps, hf, _⟩ := h
  obtain ⟨n, e, _, wn⟩ := DataW.trod_int hu hf
  exact ⟨n, e, wn⟩

theorem Rd.string (hu : Try.prog.underlying t = some .string) (h : Rd W t cs) : ∃ s : ByteArray, cs = [.string s] ∧ s.size ≤ 140737488351232 := by
  obtain ⟨H, enc, fuel, d, ps, hf, hn⟩ := h
  obtain ⟨s, e, hx, _⟩ := DataW.trod_string hu hf
  simp only [Prod.mk.injEq] at hx
  obtain ⟨rfl, _⟩ := hx
  have := hn s.data.toList.length (by simp [DataW.weights])
  simp [reachBytes] at this
  exact ⟨s, e, this⟩

theorem Rd.struct {fs : Array Field} (hu : Try.prog.underlying t = some (.struct fs)) (h : Rd W t cs) :
    cs.length = Try.prog.cellsOf t ∧ ∀ (i : Nat) (f : Field), fs[i]? = some f → Rd W f.type ((cs.drop f.offset).take (Try.prog.cellsOf f.type)) := by
  obtain ⟨H, enc, fuel, d, ps, hf, hn⟩ := h
  obtain ⟨xs, n, _, hx, hlen, hxl, hg⟩ := DataW.trod_struct hu hf
  simp only [Prod.mk.injEq] at hx
  obtain ⟨rfl, _⟩ := hx
  refine ⟨hlen, fun i f hi => ?_⟩
  have hi' : i < fs.size := (Array.getElem?_eq_some_iff.1 hi).1
  have hxi : xs[i]? = some (xs[i]'(by omega)) := List.getElem?_eq_getElem (by omega)
  refine ⟨H, enc, n, (xs[i]'(by omega)).1, (xs[i]'(by omega)).2, (hg i f hi).trans hxi, fun m hm => hn m ?_⟩
  simp only [DataW.weights, hu]
  refine DataW.weights_mem_each (j := i) (t := f.type) (d := (xs[i]'(by omega)).1) ?_ ?_ m hm
  · simp [hi]
  · simp [hxi]

theorem weightsAll_mem {H : Type} {e : TypeId} : ∀ {ds : List (DataW H)} {i : Nat} {d : DataW H}, ds[i]? = some d → ∀ n ∈ d.weights Try.prog e, n ∈ DataW.weightsAll Try.prog e ds
  | [], _, _, h, _, _ => by simp at h
  | x :: r, 0, d, h, n, hn => by
    simp at h
    subst h
    simp [DataW.weightsAll, hn]
  | x :: r, i + 1, d, h, n, hn => by
    simp only [List.getElem?_cons_succ] at h
    simp only [DataW.weightsAll, List.mem_append]
    exact .inr (weightsAll_mem h n hn)

theorem Rd.slice {e : TypeId} (hu : Try.prog.underlying t = some (.slice e)) (h : Rd W t cs) :
    cs = [.slice none 0 0] ∨ ∃ (a : Addr) (len cap : Nat), cs = [.slice (some a) len cap] ∧ len ≤ cap ∧ cap ≤ maxLen ∧ len * Try.prog.bytesOf e ≤ 140737488351232 ∧
      ∀ i, i < len → ∃ ecs : List Value, ecs.length = Try.prog.cellsOf e ∧ (∀ j, j < Try.prog.cellsOf e → W.cell? (a.add (i * Try.prog.cellsOf e + j)) = ecs[j]?) ∧ Rd W e ecs := by
  obtain ⟨H, enc, fuel, d, ps, hf, hn⟩ := h
  rcases open_slice hu hf with ⟨h0, _⟩ | ⟨a, len, cap, m, n, D, Pl, hcs, _, hl, hm, hmm, hx, hi⟩
  · exact .inl h0
  · simp only [Prod.mk.injEq] at hx
    obtain ⟨rfl, _⟩ := hx
    simp only [if_true] at hmm
    obtain rfl : m = cap := hmm
    have hw := hn _ (by simp only [DataW.weights, hu]; exact List.mem_cons_self)
    simp only [List.length_map, List.length_range, reachBytes] at hw
    refine .inr ⟨a, len, m, hcs, hl, hm, ?_, fun i hil => ?_⟩
    · exact Nat.le_trans (Nat.mul_le_mul_right _ (by omega)) hw
    · obtain ⟨ecs, hc, ht⟩ := hi i (by omega)
      obtain ⟨_, hcl, hat⟩ := World.cells?_some hc
      refine ⟨ecs, hcl, fun j hj => by rw [← hat j hj, Go.Deep.add_add], H, enc, n, D i, Pl i, ht, fun k hk => hn k ?_⟩
      simp only [DataW.weights, hu, List.mem_cons, List.mem_append]
      refine .inr (.inl (weightsAll_mem (i := i) ?_ k hk))
      simp [hil]
end
end Go.Proofs.Ytnnoeckmkjhdbaa
