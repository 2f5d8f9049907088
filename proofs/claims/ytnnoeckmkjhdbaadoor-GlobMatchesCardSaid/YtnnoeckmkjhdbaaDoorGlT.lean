/-
  Tokens of patterns in memory: a row of 258 cells. No conditions.
-/
import Derived.Test.YtnnoeckmkjhdbaaDoorGlW
import Derived.Laws.Tables
namespace Go.Proofs.YtnnoeckmkjhdbaaDoor
open Go.RowKit Go.PlainAid

/-- The cells of a token. -/
def tokRow (m d : Bool) (g : Int → Bool) : Array Value := #[.bool m, .bool d] ++ (Array.ofFn (n := 256) fun i => Value.bool (g (i.val : Int)))
theorem tokRow_size (m d : Bool) (g : Int → Bool) : (tokRow m d g).size = 258 := by simp [tokRow]
theorem tokRow_get (m d : Bool) (g : Int → Bool) {c : Nat} (hc : c < 256) : (tokRow m d g)[2 + c]? = some (.bool (g (c : Int))) := by
  unfold tokRow
  rw [Array.getElem?_append_right (by simp)]
  simp [hc]
theorem tokRow_ext {m d : Bool} {g : Int → Bool} {R : Array Value} (h0 : R.size = 258) (h1 : R[0]? = some (.bool m)) (h2 : R[1]? = some (.bool d)) (h3 : ∀ c : Nat, c < 256 → R[2 + c]? = some (.bool (g (c : Int)))) : R = tokRow m d g := by
  apply Array.ext_getElem?
  intro i
  match i with
  | 0 => rw [h1]; simp [tokRow]
  | 1 => rw [h2]; simp [tokRow]
  | i + 2 =>
    by_cases hi : i < 256
    · rw [show i + 2 = 2 + i by omega, h3 i hi, tokRow_get _ _ _ hi]
    · rw [Array.getElem?_eq_none (by omega), Array.getElem?_eq_none (by rw [tokRow_size]; omega)]
def upd1 (g : Int → Bool) (c : Int) (b : Bool) : Int → Bool := fun x => if x = c then b else g x
theorem tokRow_set (m d : Bool) (g : Int → Bool) {c : Nat} (b : Bool) : (tokRow m d g).setIfInBounds (2 + c) (.bool b) = tokRow m d (upd1 g (c : Int) b) := by
  refine tokRow_ext ?_ ?_ ?_ (fun k hk => ?_)
  · rw [Array.size_setIfInBounds, tokRow_size]
  · rw [Array.getElem?_setIfInBounds_ne (by omega)]
    simp [tokRow]
  · rw [Array.getElem?_setIfInBounds_ne (by omega)]
    simp [tokRow]
  · unfold upd1
    by_cases e : c = k
    · subst e
      rw [Array.getElem?_setIfInBounds_self_of_lt (by rw [tokRow_size]; omega), if_pos rfl]
    · rw [Array.getElem?_setIfInBounds_ne (by omega), tokRow_get _ _ _ hk, if_neg (by omega)]
theorem tokRow_many (m d b : Bool) (g : Int → Bool) : (tokRow m d g).setIfInBounds 0 (.bool b) = tokRow b d g := by
  refine tokRow_ext ?_ ?_ ?_ (fun k hk => ?_)
  · rw [Array.size_setIfInBounds, tokRow_size]
  · rw [Array.getElem?_setIfInBounds_self_of_lt (by rw [tokRow_size]; omega)]
  · rw [Array.getElem?_setIfInBounds_ne (by omega)]
    simp [tokRow]
  · rw [Array.getElem?_setIfInBounds_ne (by omega), tokRow_get _ _ _ hk]
theorem tokRow_deep (m d b : Bool) (g : Int → Bool) : (tokRow m d g).setIfInBounds 1 (.bool b) = tokRow m b g := by
  refine tokRow_ext ?_ ?_ ?_ (fun k hk => ?_)
  · rw [Array.size_setIfInBounds, tokRow_size]
  · rw [Array.getElem?_setIfInBounds_ne (by omega)]
    simp [tokRow]
  · rw [Array.getElem?_setIfInBounds_self_of_lt (by rw [tokRow_size]; omega)]
  · rw [Array.getElem?_setIfInBounds_ne (by omega), tokRow_get _ _ _ hk]
theorem tokRow_congr {m d : Bool} {g g' : Int → Bool} (h : ∀ c : Nat, c < 256 → g (c : Int) = g' (c : Int)) : tokRow m d g = tokRow m d g' :=
  tokRow_ext (tokRow_size m d g) (by simp [tokRow]) (by simp [tokRow]) (fun c hc => by rw [tokRow_get _ _ _ hc, h c hc])
theorem tokRow_one (m d : Bool) (g : Int → Bool) : (tokRow m d g).all (·.oneCell') = true := by
  unfold tokRow
  rw [Array.all_append, Bool.and_eq_true]
  refine ⟨by simp [Value.oneCell'], ?_⟩
  rw [Array.all_eq_true]
  intro i hi
  rw [Array.getElem_ofFn]
  rfl
theorem zTok_is : ∃ z : Array Value, z = tokRow false false (fun _ => false) := ⟨_, rfl⟩
noncomputable def zTok : Array Value := Classical.choose zTok_is
theorem zTok_eq : zTok = tokRow false false (fun _ => false) := Classical.choose_spec zTok_is
theorem zeroTokR (w : World) : (zeroValue 52).run Tryd.prog w = .ok (.agg (tokRow false false (fun _ => false))) w := by kernel_rfl
@[go_sem] theorem zeroTokV (w : World) : (zeroValue 52).run Tryd.prog w = .ok (.agg zTok) w := by rw [zTok_eq]; exact zeroTokR w
theorem zeroTok : zTok = tokRow false false (fun _ => false) := by first | exact zTok_eq | kernel_rfl
theorem tokInfo : (Tryd.prog.info? 52).map (·.size) = some 258 := by kernel_rfl
/-- Block tb is a token. -/
def TokAt (w : World) (tb : Nat) (m d : Bool) (g : Int → Bool) : Prop := w.heap[tb]? = some (.cells (tokRow m d g) 52 (0, 0))
variable {w w' : World} {tb : Nat} {m d : Bool} {g : Int → Bool}
theorem TokAt.lt (h : TokAt w tb m d g) : tb < w.heap.size := (Array.getElem?_eq_some_iff.1 h).1
theorem TokAt.cell (h : TokAt w tb m d g) {c : Nat} (hc : c < 256) : w.cell? ⟨tb, 2 + c, none⟩ = some (.bool (g (c : Int))) := by
  unfold TokAt at h
  simp only [World.cell?, h]
  exact tokRow_get m d g hc
theorem TokAt.c0 (h : TokAt w tb m d g) : w.cell? ⟨tb, 0, none⟩ = some (.bool m) := by
  unfold TokAt at h
  simp [World.cell?, h, tokRow]
theorem TokAt.c1 (h : TokAt w tb m d g) : w.cell? ⟨tb, 1, none⟩ = some (.bool d) := by
  unfold TokAt at h
  simp [World.cell?, h, tokRow]
theorem TokAt.fz (h : TokAt w tb m d g) (o : Nat) : w.frozen? ⟨tb, o, none⟩ = false := by
  unfold TokAt at h
  simp [World.frozen?, h]
theorem TokAt.ext (h : TokAt w tb m d g) (e : Ext w w') : TokAt w' tb m d g := (e.block tb h.lt).trans h
theorem TokAt.turn {D : Nat → Prop} (h : TokAt w tb m d g) (e : Turn D w w') (hn : ¬ D tb) : TokAt w' tb m d g := e.heap h hn
theorem cellsG_setCell {w : World} {b i : Nat} {C : Array Value} {t : TypeId} {v : Value} (h : w.heap[b]? = some (.cells C t (0, 0))) : (w.setCell ⟨b, i, none⟩ v).heap[b]? = some (.cells (C.setIfInBounds i v) t (0, 0)) := by
  have hlt := (Array.getElem?_eq_some_iff.1 h).1
  have h' := (Array.getElem?_eq_some_iff.1 h).2
  show (w.heap.modify b _)[b]? = _
  rw [Array.getElem?_eq_getElem (by simpa using hlt), Array.getElem_modify_self, h']
  rfl
theorem TokAt.put (h : TokAt w tb m d g) (c : Nat) (b : Bool) : TokAt (w.setCell ⟨tb, 2 + c, none⟩ (.bool b)) tb m d (upd1 g (c : Int) b) := by
  have := cellsG_setCell (i := 2 + c) (v := .bool b) h
  rwa [tokRow_set] at this
theorem TokAt.putm (h : TokAt w tb m d g) (b : Bool) : TokAt (w.setCell ⟨tb, 0, none⟩ (.bool b)) tb b d g := by
  have := cellsG_setCell (i := 0) (v := .bool b) h
  rwa [tokRow_many] at this
theorem TokAt.putd (h : TokAt w tb m d g) (b : Bool) : TokAt (w.setCell ⟨tb, 1, none⟩ (.bool b)) tb m b g := by
  have := cellsG_setCell (i := 1) (v := .bool b) h
  rwa [tokRow_deep] at this
theorem TokAt.other (h : TokAt w tb m d g) {p : Addr} (hp : tb ≠ p.block) (v : Value) : TokAt (w.setCell p v) tb m d g := by
  unfold TokAt at h ⊢
  rw [Below.heap_setCell _ _ _ _ hp]
  exact h
theorem RdAt.other {rb : Nat} {s : ByteArray} {a : Nat} (h : RdAt w rb s a) {p : Addr} (hp : rb ≠ p.block) (v : Value) : RdAt (w.setCell p v) rb s a := by
  unfold RdAt at h ⊢
  rw [Below.heap_setCell _ _ _ _ hp]
  exact h
theorem TokAt.new (w : World) : TokAt (w.alloc (.cells zTok 52)) w.heap.size false false (fun _ => false) := by
  unfold TokAt
  rw [← zeroTok]
  exact (MapKept.heap_alloc w _).1
theorem setRowG_at {w : World} {b : Nat} {C : Array Value} {t : TypeId} (h : w.heap[b]? = some (.cells C t (0, 0))) (cs : Array Value) : (w.setRow b cs).heap[b]? = some (.cells cs t (0, 0)) := by
  have hlt := (Array.getElem?_eq_some_iff.1 h).1
  have h' := (Array.getElem?_eq_some_iff.1 h).2
  show (w.heap.modify b _)[b]? = _
  rw [Array.getElem?_eq_getElem (by simpa using hlt), Array.getElem_modify_self, h']
theorem setRowG_off {w : World} {b k : Nat} (hk : k ≠ b) (cs : Array Value) : (w.setRow b cs).heap[k]? = w.heap[k]? := by
  show (w.heap.modify b _)[k]? = _
  rw [Array.getElem?_modify, if_neg (fun e => hk e.symm)]
theorem TokAt.row (h : TokAt w tb m d g) (m' d' : Bool) (g' : Int → Bool) : TokAt (w.setRow tb (tokRow m' d' g')) tb m' d' g' := setRowG_at h _
theorem RdAt.row {rb : Nat} {s : ByteArray} {a b : Nat} (h : RdAt w rb s a) (hne : rb ≠ b) (cs : Array Value) : RdAt (w.setRow b cs) rb s a := (setRowG_off hne cs).trans h
theorem Turn.setRow {D : Nat → Prop} {a w : World} (h : Turn D a w) {b : Nat} (hb : D b ∨ a.heap.size ≤ b) (cs : Array Value) : Turn D a (w.setRow b cs) := by
  refine ⟨h.os, h.tape, h.output, by rw [size_setRow]; exact h.size, fun i hi hn => ?_⟩
  have hne : i ≠ b := fun e => by
    rcases hb with h1 | h1
    · exact hn (e ▸ h1)
    · omega
  rw [setRowG_off hne]
  exact h.block i hi hn
/-- How far a reader has come. -/
def posOf (w : World) (rb : Nat) : Nat := match w.cell? ⟨rb, 1, none⟩ with | some (.int _ i) => i.toNat | _ => 0
theorem RdAt.pos {rb : Nat} {s : ByteArray} {a : Nat} (h : RdAt w rb s a) : posOf w rb = a := by
  unfold posOf
  rw [h.c1]
  simp
/-- A set under way: block b0 is the result, b1 the token. -/
structure SetSt (w0 wr : World) (rb b0 b1 : Nat) (s : ByteArray) (a : Nat) (g : Int → Bool) : Prop where
  rd : RdAt wr rb s a
  z : TokAt wr b0 false false (fun _ => false)
  t : TokAt wr b1 false false g
  turn : Turn (· = rb) w0 wr
  old : rb < w0.heap.size ∧ w0.heap.size ≤ b0 ∧ b0 < b1
variable {w0 wr : World} {rb b0 b1 a : Nat} {s : ByteArray}
theorem SetSt.ext (h : SetSt w0 wr rb b0 b1 s a g) (e : Ext wr w') : SetSt w0 w' rb b0 b1 s a g := ⟨h.rd.ext e, h.z.ext e, h.t.ext e, h.turn.thenExt e, h.old⟩
theorem SetSt.call (h : SetSt w0 wr rb b0 b1 s a g) {a' : Nat} (e : Turn (· = rb) wr w') (hr : RdAt w' rb s a') : SetSt w0 w' rb b0 b1 s a' g :=
  ⟨hr, h.z.turn e (by have := h.old; omega), h.t.turn e (by have := h.old; omega), h.turn.trans e (fun i hi => .inl hi), h.old⟩
theorem SetSt.move (h : SetSt w0 wr rb b0 b1 s a g) (b : Nat) {v : Value} (hv : v = .int .i64 (b : Int)) : SetSt w0 (wr.setCell ⟨rb, 1, none⟩ v) rb b0 b1 s b g :=
  ⟨h.rd.put b hv, h.z.other (by have := h.old; show b0 ≠ rb; omega) v, h.t.other (by have := h.old; show b1 ≠ rb; omega) v, h.turn.setCell (.inl rfl) v, h.old⟩
theorem SetSt.put (h : SetSt w0 wr rb b0 b1 s a g) (c : Nat) (b : Bool) : SetSt w0 (wr.setCell ⟨b1, 2 + c, none⟩ (.bool b)) rb b0 b1 s a (upd1 g (c : Int) b) :=
  ⟨h.rd.other (by have := h.old; show rb ≠ b1; omega) _, h.z.other (by have := h.old; show b0 ≠ b1; omega) _, h.t.put c b, h.turn.setCell (.inr (by have := h.old; show w0.heap.size ≤ b1; omega)) _, h.old⟩
theorem SetSt.congr (h : SetSt w0 wr rb b0 b1 s a g) {g' : Int → Bool} (hg : ∀ c : Nat, c < 256 → g (c : Int) = g' (c : Int)) : SetSt w0 wr rb b0 b1 s a g' :=
  ⟨h.rd, h.z, by have := h.t; unfold TokAt at this ⊢; rwa [tokRow_congr hg] at this, h.turn, h.old⟩
end Go.Proofs.YtnnoeckmkjhdbaaDoor
