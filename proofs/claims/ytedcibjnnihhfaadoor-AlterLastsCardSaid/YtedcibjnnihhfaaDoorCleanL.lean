/-
  Parts with '..' resolved: the stack of the program, the pairs of the reference. Plain Lean: no conditions.
-/
import Derived.Test.YtedcibjnnihhfaaDoorWords
namespace Go.Proofs.YtedcibjnnihhfaaDoor

section
variable {α : Type} (dd : α → Bool)

/-- One step of the stack. -/
def cstep (st : List α × Bool) (x : α) : List α × Bool := if dd x then (if st.1.isEmpty then ([], false) else (st.1.dropLast, st.2)) else (st.1 ++ [x], st.2)
def cfold (l : List α) (st : List α × Bool) : List α × Bool := l.foldl (cstep dd) st
/-- What is left, and whether nothing was missing. -/
def cleanV (l : List α) : List α × Bool := cfold dd l ([], true)

theorem cstep_len (st : List α × Bool) (x : α) : (cstep dd st x).1.length ≤ st.1.length + 1 := by
  unfold cstep
  repeat' split
  all_goals simp
  omega
theorem cfold_snoc (l : List α) (x : α) (st : List α × Bool) : cfold dd (l ++ [x]) st = cstep dd (cfold dd l st) x := by simp [cfold]
theorem cfold_len : ∀ (l : List α) (st : List α × Bool), (cfold dd l st).1.length ≤ st.1.length + l.length
  | [], st => by simp [cfold]
  | x :: t, st => by
    have := cfold_len t (cstep dd st x)
    have := cstep_len dd st x
    simp only [cfold, List.foldl_cons, List.length_cons] at *
    omega
theorem cfold_mem {P : α → Prop} : ∀ (l : List α) (st : List α × Bool), (∀ x ∈ st.1, P x) → (∀ x ∈ l, P x) → ∀ x ∈ (cfold dd l st).1, P x
  | [], st, h, _ => h
  | y :: t, st, h, hl => by
    refine cfold_mem t (cstep dd st y) (fun x hx => ?_) (fun x hx => hl x (by simp [hx]))
    unfold cstep at hx
    split at hx
    · split at hx
      · simp at hx
      · exact h x (List.dropLast_subset _ hx)
    · rcases List.mem_append.1 hx with hx | hx
      · exact h x hx
      · simp at hx; subst hx; exact hl _ (by simp)
theorem cleanV_mem {P : α → Prop} {l : List α} (h : ∀ x ∈ l, P x) : ∀ x ∈ (cleanV dd l).1, P x := cfold_mem dd l _ (by simp) h

theorem cfold_pair (a b : List α) (x d : α) (hx : dd x = false) (hd : dd d = true) (st : List α × Bool) : cfold dd (a ++ x :: d :: b) st = cfold dd (a ++ b) st := by
  unfold cfold
  rw [List.foldl_append, List.foldl_append, List.foldl_cons, List.foldl_cons]
  generalize a.foldl (cstep dd) st = s
  have : cstep dd (cstep dd s x) d = s := by
    unfold cstep
    simp [hx, hd]
  rw [this]

/-- No part ahead of a '..' that is none itself. -/
def noPair : List α → Bool
  | [] => true
  | [_] => true
  | x :: y :: r => (dd x || !dd y) && noPair (y :: r)
theorem noPair_two (x y : α) (r : List α) : noPair dd (x :: y :: r) = ((dd x || !dd y) && noPair dd (y :: r)) := rfl
theorem noPair_of (l : List α) (h : ∀ j (hj : j + 1 < l.length), (dd l[j] || !dd l[j + 1]) = true) : noPair dd l = true := by
  induction l with
  | nil => rfl
  | cons x t ih =>
    have ih' := ih (fun j hj => h (j + 1) (by simpa using hj))
    cases t with
    | nil => rfl
    | cons y r =>
      have h0 := h 0 (by simp)
      rw [noPair_two, Bool.and_eq_true]
      exact ⟨by simpa using h0, ih'⟩
theorem noPair_tail (x : α) (t : List α) (h : noPair dd (x :: t) = true) : noPair dd t = true := by
  cases t with
  | nil => rfl
  | cons y r =>
    rw [noPair_two, Bool.and_eq_true] at h
    exact h.2
theorem noPair_plain (x : α) : ∀ (t : List α), noPair dd (x :: t) = true → dd x = false → ∀ y ∈ x :: t, dd y = false
  | [], _, hx, y, hy => by simp at hy; subst hy; exact hx
  | z :: r, h, hx, y, hy => by
    rw [noPair_two, Bool.and_eq_true] at h
    have hz : dd z = false := by have := h.1; simp [hx] at this; exact this
    rcases List.mem_cons.1 hy with rfl | hy
    · exact hx
    · exact noPair_plain z r h.2 hz y hy
theorem cfold_plain : ∀ (l : List α) (st : List α × Bool), (∀ y ∈ l, dd y = false) → cfold dd l st = (st.1 ++ l, st.2)
  | [], st, _ => by simp [cfold]
  | x :: t, st, h => by
    have hx := h x (by simp)
    have ih := cfold_plain t (cstep dd st x) (fun y hy => h y (by simp [hy]))
    unfold cfold at ih ⊢
    rw [List.foldl_cons, ih]
    simp [cstep, hx]
/-- Where no pair is left: what is ahead goes, and something was missing if there was any. -/
theorem cleanV_noPair : ∀ (l : List α) (b : Bool), noPair dd l = true → cfold dd l ([], b) = (l.dropWhile dd, b && (match l with | [] => true | x :: _ => !dd x))
  | [], b, _ => by simp [cfold]
  | x :: t, b, h => by
    cases hx : dd x with
    | true =>
      have ht := noPair_tail dd x t h
      have ih := cleanV_noPair t false ht
      unfold cfold at ih ⊢
      rw [List.foldl_cons, show cstep dd ([], b) x = ([], false) by simp [cstep, hx], ih]
      simp [List.dropWhile, hx]
    | false =>
      have hall := noPair_plain dd x t h hx
      rw [cfold_plain dd _ _ hall]
      simp [List.dropWhile, hx]
theorem cleanV_at : ∀ (c : Nat) (l : List α), c ≤ l.length → (∀ j (hj : j < l.length), j < c → dd l[j] = true) → (∀ (h : c < l.length), dd l[c] = false) →
    l.dropWhile dd = l.drop c ∧ (true && (match l with | [] => true | x :: _ => !dd x)) = decide (c = 0)
  | 0, [], _, _, _ => by simp
  | 0, x :: t, _, _, h => by
    have := h (by simp)
    simp at this
    simp [List.dropWhile, this]
  | c + 1, [], hc, _, _ => by simp at hc
  | c + 1, x :: t, hc, hall, h => by
    have hx : dd x = true := hall 0 (by simp) (by omega)
    have ih := cleanV_at c t (by simpa using hc) (fun j hj hjc => by have := hall (j + 1) (by simpa using hj) (by omega); simpa using this) (fun hlt => by have := h (by simpa using hlt); simpa using this)
    refine ⟨?_, by simp [hx]⟩
    simp only [List.dropWhile, hx, List.drop_succ_cons]
    exact ih.1
end
end Go.Proofs.YtedcibjnnihhfaaDoor
