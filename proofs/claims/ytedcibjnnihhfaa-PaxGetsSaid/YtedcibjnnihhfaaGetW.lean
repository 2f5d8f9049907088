/-
  pax.Get: its walk.
-/
import Derived.Test.YtedcibjnnihhfaaBack
namespace Go.Proofs.Ytedcibjnnihhfaa
open Go.RowKit Go.WideShapes Go.Shelf
attribute [local go_sem] Oper.semAt_some

/-- The value of the last of the first m pairs with the key. -/
def getV (K X : Nat → ByteArray) (key : ByteArray) : Nat → ByteArray
  | 0 => ⟨#[]⟩
  | m + 1 => if (K m).toList == key.toList then X m else getV K X key m

theorem getV_skip (K X : Nat → ByteArray) (key : ByteArray) (m : Nat) : ∀ n, m ≤ n → (∀ i, m ≤ i → i < n → ((K i).toList == key.toList) = false) → getV K X key n = getV K X key m
  | 0, h, _ => by rw [Nat.le_zero.1 h]
  | n + 1, h, hk => by
    by_cases e : m = n + 1
    · rw [e]
    · have := getV_skip K X key m n (by omega) fun i h1 h2 => hk i h1 (by omega)
      rw [← this]
      show (if ((K n).toList == key.toList) = true then X n else getV K X key n) = _
      rw [hk n (by omega) (by omega)]
      rfl
theorem backP_get (K X : Nat → ByteArray) (n j : Nat) (h : j < n) : (backP K X n 0)[j]? = some (n - 1 - j, K (n - 1 - j), X (n - 1 - j)) := by
  unfold backP
  rw [List.drop_zero, List.getElem?_map, List.getElem?_reverse (by simpa using h), List.length_range, List.getElem?_range (by omega)]
  rfl
def noKey (key : ByteArray) (pre : List (Nat × ByteArray × ByteArray)) : Prop := ∀ x ∈ pre, (x.2.1.toList == key.toList) = false
theorem get_none (K X : Nat → ByteArray) (key : ByteArray) (n : Nat) (h : noKey key (backP K X n 0)) : getV K X key n = ⟨#[]⟩ :=
  getV_skip K X key 0 n (by omega) fun i _ hi => by
    have := backP_get K X n (n - 1 - i) (by omega)
    rw [show n - 1 - (n - 1 - i) = i by omega] at this
    exact h _ (List.mem_of_getElem? this)
theorem get_hit (K X : Nat → ByteArray) (key : ByteArray) (n : Nat) (pre : List (Nat × ByteArray × ByteArray)) (x : Nat × ByteArray × ByteArray) (hp : pre ++ [x] <+: backP K X n 0) (h : noKey key pre) (hx : (x.2.1.toList == key.toList) = true) : getV K X key n = x.2.2 := by
  have hl : pre.length < n := by
    have := hp.length_le
    rw [backP_len, List.length_append, List.length_singleton] at this
    omega
  have hg : ∀ j, j < pre.length + 1 → (pre ++ [x])[j]? = some (n - 1 - j, K (n - 1 - j), X (n - 1 - j)) := fun j hj => by
    obtain ⟨t, ht⟩ := hp
    have := backP_get K X n j (by omega)
    rw [← ht, List.getElem?_append_left (by rw [List.length_append, List.length_singleton]; omega)] at this
    exact this
  have h1 := hg pre.length (by omega)
  rw [List.getElem?_append_right (Nat.le_refl _), Nat.sub_self] at h1
  have h1 : x = (n - 1 - pre.length, K (n - 1 - pre.length), X (n - 1 - pre.length)) := by simpa using h1
  have h2 := getV_skip K X key (n - 1 - pre.length + 1) n (by omega) fun i hi hin => by
    have := hg (n - 1 - i) (by omega)
    rw [List.getElem?_append_left (by omega), show n - 1 - (n - 1 - i) = i by omega] at this
    exact h _ (List.mem_of_getElem? this)
  rw [h2]
  show (if ((K (n - 1 - pre.length)).toList == key.toList) = true then X (n - 1 - pre.length) else getV K X key (n - 1 - pre.length)) = _
  rw [h1] at hx
  rw [if_pos hx, h1]

theorem box_kept {W W' : World} {row : Option Nat} {B : Nat} {t : TypeId} {v : Value} (h : Boxed W B t v) (hg : W.grownBy W' row) (hr : ∀ r, row = some r → ∃ o : Obj, W.heap[r]? = some o ∧ o.isCells = false) : Boxed W' B t v :=
  boxed_own B t (fun _ : Unit => v) () W W' row h hg hr
/-- A pair in a box. -/
def Boxed2 (W : World) (B : Nat) (k x : ByteArray) : Prop := W.heap[B]? = some (.cells #[.string k, .string x] 29 (0, 0))
theorem box2_kept {W W' : World} {row : Option Nat} {B : Nat} {k x : ByteArray} (h : Boxed2 W B k x) (hg : W.grownBy W' row) (hr : ∀ r, row = some r → ∃ o : Obj, W.heap[r]? = some o ∧ o.isCells = false) : Boxed2 W' B k x :=
  (hg.block B (Array.getElem?_eq_some_iff.1 h).1 (fun e => by
    obtain ⟨o, ho, hc⟩ := hr B e.symm
    rw [show W.heap[B]? = _ from h] at ho
    cases ho
    simp [Obj.isCells] at hc)).trans h

set_option maxHeartbeats 4000000 in
set_option maxRecDepth 100000 in
theorem get_some (w : World) (oa : Option Addr) (n cap : Nat) (K X : Nat → ByteArray) (key : ByteArray) (hn : n ≤ 4398046511100)
    (hc : ∀ k, k < n → ∃ b off, oa = some ⟨b, off, none⟩ ∧ w.cell? ⟨b, off + k * 2, none⟩ = some (.string (K k)) ∧ w.cell? ⟨b, off + k * 2 + 1, none⟩ = some (.string (X k))) :
    Calls Try.prog 9 #[.slice oa n cap, .string key] w fun e w' => e = .returned (.tuple #[.string (getV K X key n), .bool (!(getV K X key n).toList.isEmpty)]) ∧ Ext w w' := by
  refine (callsIn_wide (n := 4)).1 ?_
  refine callsIn_of_wp_marks Try.func9 rfl trivial ?_ rfl
  simp only [Try.ntmps9, List.size_toArray, List.length_cons, List.length_nil, Nat.reduceAdd, Nat.reduceSub, Array.replicate_succ, Array.replicate_zero, List.push_toArray, List.append_toArray, List.nil_append, List.cons_append]
  gi_wp2_with (refine ⟨trivial, ?_⟩; gi_at_call 19; refine ((callsIn_wide (n := 3)).2 (back_any _ _ _ _)).mono ?_; rintro e w' ⟨rfl, rfl⟩)
  have bK := (((Boxed.new w 9 (.string key)).alloc (.cells #[.string ⟨#[]⟩] 9)).alloc (.cells #[.bool false] 4)).alloc (.cells #[.slice oa n cap] 22)
  have bV := ((Boxed.new (w.alloc (.cells #[.string key] 9)) 9 (.string ⟨#[]⟩)).alloc (.cells #[.bool false] 4)).alloc (.cells #[.slice oa n cap] 22)
  have bB := (Boxed.new ((w.alloc (.cells #[.string key] 9)).alloc (.cells #[.string ⟨#[]⟩] 9)) 4 (.bool false)).alloc (.cells #[.slice oa n cap] 22)
  have bS := Boxed.new (((w.alloc (.cells #[.string key] 9)).alloc (.cells #[.string ⟨#[]⟩] 9)).alloc (.cells #[.bool false] 4)) 22 (.slice oa n cap)
  have hE0 : Below w.heap.size w ((((w.alloc (.cells #[.string key] 9)).alloc (.cells #[.string ⟨#[]⟩] 9)).alloc (.cells #[.bool false] 4)).alloc (.cells #[.slice oa n cap] 22)) := ((((Ext.refl w).alloc _).alloc _).alloc _).alloc _
  have hsz : ((((w.alloc (.cells #[.string key] 9)).alloc (.cells #[.string ⟨#[]⟩] 9)).alloc (.cells #[.bool false] 4)).alloc (.cells #[.slice oa n cap] 22)).heap.size = w.heap.size + 4 := by simp
  simp only [World.size_alloc] at bV bB bS
  generalize hW0 : ((((w.alloc (.cells #[.string key] 9)).alloc (.cells #[.string ⟨#[]⟩] 9)).alloc (.cells #[.bool false] 4)).alloc (.cells #[.slice oa n cap] 22)) = W0 at *
  clear hW0
  have hit : SeqStopsK Fence.wide 3 Try.prog 38 #[.pointer (some ⟨w.heap.size + 1 + 1 + 1, 0, none⟩)] encP (Below (w.heap.size + 4)) (fun ys => ys = backP K X n 0) (fun pre => pre <+: backP K X n 0) n W0 := by
    intro l J Jx W hW hJ hJx hY h0
    refine back1_in Fence.wide 3 trivial rfl (by omega) l (w.heap.size + 1 + 1 + 1) (w.heap.size + 4) K X n hn oa cap J Jx hY W (by omega) ?_ ?_ h0
    · exact (hW.cell (p := ⟨w.heap.size + 1 + 1 + 1, 0, none⟩) (by show w.heap.size + 1 + 1 + 1 < W0.heap.size; omega)).trans bS.cell
    · intro k hk
      obtain ⟨b, off, e, c0, c1⟩ := hc k hk
      have hbl := World.block_lt_of_cell? w _ c0
      have hbl : b < w.heap.size := hbl
      refine ⟨b, off, e, by omega, ?_, ?_⟩
      · exact (hW.cell (p := ⟨b, off + k * 2, none⟩) (by show b < W0.heap.size; omega)).trans (Ext.cell hE0 c0)
      · exact (hW.cell (p := ⟨b, off + k * 2 + 1, none⟩) (by show b < W0.heap.size; omega)).trans (Ext.cell hE0 c1)
  refine wpIn_rangeFunc_ownH rfl (by omega) (gf := 38) (lb := #[.pointer (some ⟨w.heap.size + 1 + 1 + 1, 0, none⟩)]) rfl trivial (enters_of Try.func38 (by kernel_rfl) rfl)
    hit belowK_t (belowK_b (by omega)) (Below.refl _ _) (fun _ => rfl)
    (fun pre W => ((Boxed W w.heap.size 9 (.string key) ∧ Boxed W (w.heap.size + 1) 9 (.string ⟨#[]⟩) ∧ Boxed W (w.heap.size + 1 + 1) 4 (.bool false) ∧ Boxed W (w.heap.size + 1 + 1 + 1) 22 (.slice oa n cap)) ∧ noKey key pre) ∧ Below w.heap.size w W)
    (fun c pre W => (∃ pre0 x, c = .ret ∧ pre = pre0 ++ [x] ∧ noKey key pre0 ∧ (x.2.1.toList == key.toList) = true ∧ Boxed W (w.heap.size + 1) 9 (.string x.2.2) ∧ Boxed W (w.heap.size + 1 + 1) 4 (.bool (!x.2.2.toList.isEmpty))) ∧ Below w.heap.size w W)
    (OwnFrom.and (fun s A B row h hg hr => ⟨⟨box_kept h.1.1 hg fun r e => (hr r e).2, box_kept h.1.2.1 hg fun r e => (hr r e).2, box_kept h.1.2.2.1 hg fun r e => (hr r e).2, box_kept h.1.2.2.2 hg fun r e => (hr r e).2⟩, h.2⟩) (ownFrom_below (Nat.le_refl _) (by omega)))
    (fun c => OwnFrom.and (fun s A B row h hg hr => by
      obtain ⟨p0, x, e1, e2, e3, e4, h5, h6⟩ := h
      exact ⟨p0, x, e1, e2, e3, e4, box_kept h5 hg fun r e => (hr r e).2, box_kept h6 hg fun r e => (hr r e).2⟩) (ownFrom_below (Nat.le_refl _) (by omega)))
    ⟨⟨⟨bK, bV, bB, bS⟩, fun x hx => by simp at hx⟩, hE0⟩
    (fun x a' W => ∃ Bx, w.heap.size + 4 ≤ Bx ∧ Boxed2 W Bx x.2.1 x.2.2 ∧ a' = { tmps := #[.slice oa n cap, .string key, undef, .pointer (some ⟨w.heap.size, 0, none⟩), .pointer (some ⟨w.heap.size + 1, 0, none⟩), .pointer (some ⟨w.heap.size + 1 + 1, 0, none⟩), undef, .pointer (some ⟨Bx, 0, none⟩), .slice oa n cap, .func (.func 38) #[] #[.pointer (some ⟨w.heap.size + 1 + 1 + 1, 0, none⟩)], .int .i64 (x.1 : Int), .agg #[.string x.2.1, .string x.2.2], undef, undef, undef, undef, undef, undef, undef, undef, undef], defers := [] })
    (fun x a' _ A B row h hg hr => by
      obtain ⟨Bx, e1, h2, e3⟩ := h
      exact ⟨Bx, e1, box2_kept h2 hg fun r e => (hr r e).2, e3⟩) ?assign ?body ?done ?stop
  case assign =>
    rintro l pre x W P hi hP
    obtain ⟨⟨⟨i1, i2, i3, i0⟩, i4⟩, hB⟩ := hi
    have hsz2 := i0.lt
    obtain ⟨i, kk, xx⟩ := x
    dsimp only [encP]
    gi_wp2
    exact hP _ _ ((KeepsOthers.alloc _ _).from _) ((Below.refl _ W).alloc (by omega) _) ⟨⟨⟨i1.alloc _, i2.alloc _, i3.alloc _, i0.alloc _⟩, i4⟩, hB.alloc (by omega) _⟩ ⟨W.heap.size, by omega, World.alloc_heap_new W _, rfl⟩
  case body =>
    rintro l pre x a' W hl ⟨r, hr⟩ ⟨⟨⟨i1, i2, i3, i0⟩, i4⟩, hB⟩ ⟨Bx, hBx, bX, rfl⟩ hlt
    obtain ⟨i, kk, xx⟩ := x
    dsimp only at bX
    have hx0 : W.cell? ⟨Bx, 0, none⟩ = some (.string kk) := by simp [World.cell?, show W.heap[Bx]? = _ from bX]
    have hx1 : W.cell? ⟨Bx, 1, none⟩ = some (.string xx) := by simp [World.cell?, show W.heap[Bx]? = _ from bX]
    have hk0 := i1.cell
    have hv0 := i2.cell
    have hb0 := i3.cell
    have hvf := i2.frozen
    have hbf := i3.frozen
    have hvl := i2.lt
    have hbl := i3.lt
    cases hq : (kk.toList == key.toList) with
    | false =>
      gi_wp2
      refine ⟨KeepsFrom.refl _ _, Below.refl _ _, ⟨⟨i1, i2, i3, i0⟩, fun y hy => ?_⟩, hB⟩
      rcases List.mem_append.1 hy with h | h
      · exact i4 y h
      · simp at h; subst h; exact hq
    | true =>
      have p1 : Boxed (((W.setCell ⟨w.heap.size + 1, 0, none⟩ (.string xx)).setCell ⟨w.heap.size + 1 + 1, 0, none⟩ (.bool !xx.toList.isEmpty)).drew) (w.heap.size + 1) 9 (.string xx) := (i2.set (.string xx)).other (by omega) _
      have p2 : Boxed (((W.setCell ⟨w.heap.size + 1, 0, none⟩ (.string xx)).setCell ⟨w.heap.size + 1 + 1, 0, none⟩ (.bool !xx.toList.isEmpty)).drew) (w.heap.size + 1 + 1) 4 (.bool !xx.toList.isEmpty) := (i3.other (by omega) _).set _
      have p3 : Below w.heap.size w (((W.setCell ⟨w.heap.size + 1, 0, none⟩ (.string xx)).setCell ⟨w.heap.size + 1 + 1, 0, none⟩ (.bool !xx.toList.isEmpty)).drew) := ((hB.setCell (p := ⟨w.heap.size + 1, 0, none⟩) (by show w.heap.size ≤ w.heap.size + 1; omega) _).setCell (p := ⟨w.heap.size + 1 + 1, 0, none⟩) (by show w.heap.size ≤ w.heap.size + 1 + 1; omega) _).drew
      have p4 : KeepsFrom W0.heap.size W (((W.setCell ⟨w.heap.size + 1, 0, none⟩ (.string xx)).setCell ⟨w.heap.size + 1 + 1, 0, none⟩ (.bool !xx.toList.isEmpty)).drew) := (((KeepsOthers.setCell _ _ _).trans (KeepsOthers.setCell _ _ _)).trans (KeepsOthers.drew _)).from _
      gi_wp2
      gi_region
      all_goals
        gi_wp2
        exact ⟨p4, ⟨pre, (i, kk, xx), rfl, rfl, i4, hq, p1, p2⟩, p3⟩
  case done =>
    rintro D ys W hD rfl ⟨⟨⟨i1, i2, i3, i0⟩, hno⟩, hB⟩ hK
    have hvl := i2.lt
    have hbl := i3.lt
    have hv0 := i2.cell
    have hb0 := i3.cell
    have hvf := i2.frozen
    have hbf := i3.frozen
    gi_wp2
    have q1 : Boxed ((W.setCell ⟨w.heap.size + 1, 0, none⟩ (.string ⟨#[]⟩)).setCell ⟨w.heap.size + 1 + 1, 0, none⟩ (.bool false)) (w.heap.size + 1) 9 (.string ⟨#[]⟩) := (i2.set (.string ⟨#[]⟩)).other (by omega) _
    have q2 : Boxed ((W.setCell ⟨w.heap.size + 1, 0, none⟩ (.string ⟨#[]⟩)).setCell ⟨w.heap.size + 1 + 1, 0, none⟩ (.bool false)) (w.heap.size + 1 + 1) 4 (.bool false) := (i3.other (by omega) _).set _
    have q3 : Below w.heap.size w ((W.setCell ⟨w.heap.size + 1, 0, none⟩ (.string ⟨#[]⟩)).setCell ⟨w.heap.size + 1 + 1, 0, none⟩ (.bool false)) := (hB.setCell (p := ⟨w.heap.size + 1, 0, none⟩) (by show w.heap.size ≤ w.heap.size + 1; omega) _).setCell (p := ⟨w.heap.size + 1 + 1, 0, none⟩) (by show w.heap.size ≤ w.heap.size + 1 + 1; omega) _
    have q4 : ((W.setCell ⟨w.heap.size + 1, 0, none⟩ (.string ⟨#[]⟩)).setCell ⟨w.heap.size + 1 + 1, 0, none⟩ (.bool false)).heap[D]? = some (.deferred (some [])) := ((KeepsOthers.setCell _ _ _).trans (KeepsOthers.setCell _ _ _)).same D _ hK rfl
    generalize (W.setCell ⟨w.heap.size + 1, 0, none⟩ (.string ⟨#[]⟩)).setCell ⟨w.heap.size + 1 + 1, 0, none⟩ (.bool false) = V at *
    have e1 : getV K X key n = ⟨#[]⟩ := get_none K X key n hno
    refine ⟨by simp, .inl ⟨_, _, rfl, run_takeDeferred q4, ?_⟩⟩
    have s0 : (V.putObj D (.deferred none)).cell? ⟨w.heap.size + 1, 0, none⟩ = some (.string ⟨#[]⟩) := cell_kept q1.cell (grownBy_putObj' _ D (.deferred none)) (fun r e => by cases e; exact ⟨_, q4, rfl⟩)
    have s1 : (V.putObj D (.deferred none)).cell? ⟨w.heap.size + 1 + 1, 0, none⟩ = some (.bool false) := cell_kept q2.cell (grownBy_putObj' _ D (.deferred none)) (fun r e => by cases e; exact ⟨_, q4, rfl⟩)
    rw [e1]
    refine ⟨.tuple #[.string ⟨#[]⟩, .bool false], (by simp [results, Try.results9, go_sem, s0, s1]), by rw [show (⟨#[]⟩ : ByteArray).toList.isEmpty = true from by decide +kernel]; rfl, q3.trans (belowK_b (w := w) (Nat.le_refl _) V D _ _ (by omega) q4 rfl rfl)⟩
  case stop =>
    rintro D c pre W hD hp ⟨⟨p0, x, rfl, rfl, hno, hx, b1, b2⟩, hB⟩ hK
    gi_wp2
    have e1 : getV K X key n = x.2.2 := get_hit K X key n p0 x hp hno hx
    refine ⟨by simp, .inl ⟨_, _, rfl, run_takeDeferred hK, ?_⟩⟩
    have s0 : (W.putObj D (.deferred none)).cell? ⟨w.heap.size + 1, 0, none⟩ = some (.string x.2.2) := cell_kept b1.cell (grownBy_putObj' _ D (.deferred none)) (fun r e => by cases e; exact ⟨_, hK, rfl⟩)
    have s1 : (W.putObj D (.deferred none)).cell? ⟨w.heap.size + 1 + 1, 0, none⟩ = some (.bool !x.2.2.toList.isEmpty) := cell_kept b2.cell (grownBy_putObj' _ D (.deferred none)) (fun r e => by cases e; exact ⟨_, hK, rfl⟩)
    rw [e1]
    refine ⟨_, (by simp [results, Try.results9, go_sem, s0, s1]), rfl, hB.trans (belowK_b (w := w) (Nat.le_refl _) W D _ _ (by omega) hK rfl rfl)⟩
end Go.Proofs.Ytedcibjnnihhfaa
