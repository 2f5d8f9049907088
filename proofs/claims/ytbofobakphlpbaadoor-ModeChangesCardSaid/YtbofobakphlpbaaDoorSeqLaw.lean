/-
  A range over a function whose iterator keeps its state in one cell of its own (strings.SplitSeq). Conditions: the caller's invariant abides a store into that cell.
-/
import Derived.RangeFuncNested
import Derived.RangeFuncBound
import Derived.RangeFuncCalls
import Derived.RangeFuncLeaves
import Derived.Shelf.Abstract
import Derived.Shelf.RegionOpen
import Derived.WalkKit
import Derived.OwnWalkIn
import Derived.TacticsInMore
import Derived.LoopNIn
import Derived.LoopIn
import Derived.Test.YtbofobakphlpbaaDoorKit
namespace Go.Proofs.YtbofobakphlpbaaDoor
open Go.RowKit Go.WideShapes Go.Shelf

/-- The iterator's word: between two rounds it stores into cell Bs and nowhere else. -/
def SeqCell {α : Type} (F : Fence) (n : Nat) (P : Program) (gf : Nat) (lb : Array Value) (encs : α → Array Value) (Kp : World → World → Prop) (S Sp : List α → Prop) (N Bs : Nat) (w : World) : Prop :=
  ∀ (l : Nat) (J Jx : List α → World → Prop) (W : World), Below w.heap.size w W → (∀ s X v, J s X → J s (X.setCell ⟨Bs, 0, none⟩ v)) → (∀ s X v, Jx s X → Jx s (X.setCell ⟨Bs, 0, none⟩ v)) →
    (∀ pre x W1, J pre W1 → pre.length < N → YieldAt F (n - 1) P l (encs x) W1 fun e W' => (e = .returned (.bool true) ∧ J (pre ++ [x]) W' ∧ Kp W1 W') ∨ (e = .returned (.bool false) ∧ Jx (pre ++ [x]) W')) →
    J [] W → CallsIn F n P gf (#[.func (.yield l) #[] #[]] ++ lb) W fun e W' => (∃ v, e = .returned v) ∧ ((∃ xs, S xs ∧ J xs W') ∨ (∃ pre, Sp pre ∧ Jx pre W'))

section
variable {α : Type} {F : Fence} {n : Nat} {P : Program} {g : Operand} {ps : Array Tmp} {assign body : Code} {Q : Exit → Act → World → Prop} {a : Act} {w : World}

theorem set_keeps {B : Nat} {X : World} {k : Nat} {o : Obj} (h : X.heap[k]? = some o) (hk : k ≠ B) (v : Value) : (X.setCell ⟨B, 0, none⟩ v).heap[k]? = some o :=
  (Below.heap_setCell X ⟨B, 0, none⟩ v k hk).trans h

theorem wpIn_rangeFunc_cell (hro : F.round = none) (h1 : 1 ≤ n) {gf : Nat} {lb : Array Value} (hg : a.eval g = .func (.func gf) #[] lb) (hFg : F.fn gf) (eg : ∀ args w, (callFunc gf args).run P w = .ok (.enter gf args) w)
    {encs : α → Array Value} {Kp : World → World → Prop} {S Sp : List α → Prop} {N Bs : Nat} (hBs : Bs < w.heap.size) (hseq : SeqCell F (n - 1) P gf lb encs Kp S Sp N Bs w)
    (hKt : ∀ {A B C : World}, Kp A B → Kp B C → Kp A C) (hKb : ∀ (W : World) (l : Nat) (o : Obj), w.heap.size ≤ l → Kp W (W.putObj l o)) (hps : ∀ x, (encs x).size = ps.size)
    (I Ix : List α → World → Prop) (hI : OwnFrom w.heap.size I) (hIx : OwnFrom w.heap.size Ix) (hIs : ∀ s X v, I s X → I s (X.setCell ⟨Bs, 0, none⟩ v)) (hIxs : ∀ s X v, Ix s X → Ix s (X.setCell ⟨Bs, 0, none⟩ v)) (h0 : I [] w) (a1 : α → Act)
    (hassign : ∀ (l : Nat) (x : α) (W : World) (K : Act → World → Prop), K (a1 x) W → assign.wpIn (F.inRound l) (n - 1 - 1) P (Exit.then K (fun _ _ _ => False)) { tmps := (ps.zip (encs x)).foldl (fun t (p, v) => t.setIfInBounds p v) a.tmps, defers := [] } W)
    (hbody : ∀ (l : Nat) (pre : List α) (x : α) (W : World), I pre W → pre.length < N →
      body.wpIn (F.inRound l) (n - 1 - 1) P (ownPostG w.heap.size Kp I (fun c xs W => c = .ret ∧ Ix xs W) (pre ++ [x]) W) (a1 x) W)
    (hdone : ∀ (D : Nat) (xs : List α) (W : World), w.heap.size ≤ D → S xs → I xs W → W.heap[D]? = some (.deferred (some [])) → Q .normal { a with defers := { target := .collected D, args := #[] } :: a.defers } W)
    (hstop : ∀ (D : Nat) (pre : List α) (W : World), w.heap.size ≤ D → Sp pre → Ix pre W → W.heap[D]? = some (.deferred (some [])) → (Code.ret).wpIn F n P Q { a with defers := { target := .collected D, args := #[] } :: a.defers } W) :
    (Code.rangeFunc g ps assign body).wpIn F n P Q a w := by
  refine wpIn_rangeFunc fun fn hfn => ?_
  rw [hro]
  -- the loop's record, as it stands in each of its states
  let R : LoopState → Option Code → Loop := fun st pe => { state := st, pending := pe, fn, tmps := a.tmps, params := ps, assign, body, defers := w.heap.size }
  obtain ⟨V, hV⟩ : ∃ V, V = (w.alloc (.deferred (some []))).alloc (.loop (R .ready none)) := ⟨_, rfl⟩
  have vL : V.heap[w.heap.size + 1]? = some (.loop (R .ready none)) := by
    have h := World.alloc_heap_new (w.alloc (.deferred (some []))) (.loop (R .ready none))
    rw [World.size_alloc] at h
    rw [hV]
    exact h
  have vK : V.heap[w.heap.size]? = some (.deferred (some [])) := by
    rw [hV]
    exact (Below.heap_alloc _ _ _ (by simp)).trans (World.alloc_heap_new w _)
  have vB : Below w.heap.size w V := by
    rw [hV]
    exact ((Below.refl _ w).alloc (Nat.le_refl _) _).alloc (by simp) _
  have vI : I [] V := by
    rw [hV]
    exact hI.alloc _ (hI.alloc _ h0)
  refine ⟨w.heap.size + 1, [{ target := .collected w.heap.size, args := #[] }], V, { target := .fn (.func gf) lb, args := #[.func (.yield (w.heap.size + 1)) #[] #[]] }, V, gf, #[.func (.yield (w.heap.size + 1)) #[] #[]] ++ lb, V, ?_, ?_, ?_, ?_, fun _ => h1, ?_⟩
  · rw [hV]
    exact run_enterLoop_outer _ _ _ _ _
  · simp only [resolve, hg]
    simp [go_sem]
  · intro f hf
    simp [Target.leads] at hf
    subst hf
    exact hFg
  · simp [invoke, go_sem, eg]
  let J : List α → World → Prop := fun pre W => I pre W ∧ W.heap[w.heap.size + 1]? = some (.loop (R .ready none)) ∧ W.heap[w.heap.size]? = some (.deferred (some []))
  let Jx : List α → World → Prop := fun pre W => Ix pre W ∧ W.heap[w.heap.size + 1]? = some (.loop (R .done (some .ret))) ∧ W.heap[w.heap.size]? = some (.deferred (some []))
  have lift : CallsIn F (n - 1) P gf (#[.func (.yield (w.heap.size + 1)) #[] #[]] ++ lb) V fun e W' => (∃ v, e = .returned v) ∧ ((∃ xs, S xs ∧ J xs W') ∨ (∃ pre, Sp pre ∧ Jx pre W')) := by
    refine hseq (w.heap.size + 1) J Jx V vB (fun s X v h => ⟨hIs s X v h.1, set_keeps h.2.1 (by omega) v, set_keeps h.2.2 (by omega) v⟩) (fun s X v h => ⟨hIxs s X v h.1, set_keeps h.2.1 (by omega) v, set_keeps h.2.2 (by omega) v⟩) ?_ ⟨vI, vL, vK⟩
    intro pre x W hJ hlen
    obtain ⟨hi, hl, hk⟩ := hJ
    have hlt : w.heap.size + 1 < W.heap.size := (Array.getElem?_eq_some_iff.1 hl).1
    refine ⟨fn, _, assign, body, run_yield (P := P) (args := encs x) hl (hps x), roundIn_of_wpIn hfn (hassign _ x W _ ?_)⟩
    refine ⟨_, run_beginRound hl rfl, ?_⟩
    obtain ⟨U, hU⟩ : ∃ U, U = W.putObj (w.heap.size + 1) (.loop (R .busy none)) := ⟨_, rfl⟩
    have uL : U.heap[w.heap.size + 1]? = some (.loop (R .busy none)) := by
      rw [hU]
      exact World.putObj_heap_same hlt
    have uK : U.heap[w.heap.size]? = some (.deferred (some [])) := by
      rw [hU]
      exact (World.putObj_heap_other (by omega)).trans hk
    have uI : I pre U := by
      rw [hU]
      exact hI.putObj _ hi (by omega) hl rfl
    have uP : Kp W U := by
      rw [hU]
      exact hKb _ _ _ (by omega)
    show body.wpIn _ _ P _ (a1 x) (W.putObj (w.heap.size + 1) (.loop (R .busy none)))
    rw [← hU]
    refine wpIn_mono (hbody _ pre x U uI hlen) ?_
    rintro e a3 X hp
    cases e with
    | normal =>
      obtain ⟨hk3, hp3, hi3⟩ := hp
      have xL := hk3.same _ _ (by omega) uL rfl
      have xK := hk3.same _ _ (Nat.le_refl _) uK rfl
      exact ⟨_, _, run_endRound (P := P) none xL, .inl ⟨rfl, ⟨hI.putObj _ hi3 (by omega) xL rfl, World.putObj_heap_same (Array.getElem?_eq_some_iff.1 xL).1, (World.putObj_heap_other (by omega)).trans xK⟩, hKt uP (hKt hp3 (hKb _ _ _ (by omega)))⟩⟩
    | ret =>
      obtain ⟨hk3, _, hi3⟩ := hp
      have xL := hk3.same _ _ (by omega) uL rfl
      have xK := hk3.same _ _ (Nat.le_refl _) uK rfl
      exact ⟨_, _, run_endRound (P := P) (some .ret) xL, .inr ⟨rfl, hIx.putObj _ hi3 (by omega) xL rfl, World.putObj_heap_same (Array.getElem?_eq_some_iff.1 xL).1, (World.putObj_heap_other (by omega)).trans xK⟩⟩
    | exit id => exact absurd hp.2.1 (by intro h; cases h)
    | goto t => exact absurd hp.2.1 (by intro h; cases h)
    | panic ch => exact hp.elim
    | outgrown => exact hp.elim
  refine lift.mono ?_
  rintro e X ⟨⟨v, rfl⟩, (⟨xs, hS, hi, hl, hk⟩ | ⟨pre, hSp, hi, hl, hk⟩)⟩
  · exact ⟨none, _, run_endLoop (P := P) hl (by simp [R]), hdone _ xs _ (Nat.le_refl _) hS (hI.putObj _ hi (by omega) hl rfl) ((World.putObj_heap_other (by omega)).trans hk)⟩
  · exact ⟨some .ret, _, run_endLoop (P := P) hl (by simp [R]), hstop _ pre _ (Nat.le_refl _) hSp (hIx.putObj _ hi (by omega) hl rfl) ((World.putObj_heap_other (by omega)).trans hk)⟩
end
end Go.Proofs.YtbofobakphlpbaaDoor
