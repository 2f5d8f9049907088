/-
  Which members are the last ones of their names: alter.Last.
-/
import Derived.Test.YtedcibjnnihhfaaDoorEntBox
import Derived.Test.YtedcibjnnihhfaaDoorClean
import Derived.Test.YtedcibjnnihhfaaDoorInts
import Derived.Test.YtedcibjnnihhfaaDoorDet
import Derived.Shelf.SlicesQ.IndexFunc
namespace Go.Proofs.YtedcibjnnihhfaaDoor
open Go.RowKit Go.WideShapes Go.Shelf

/-- A name by its parts. -/
def clnN (s : ByteArray) : ByteArray := joinV (cleanV ddB (partsB s)).1
theorem clean_box (e : Ent) (ok : e.Ok) (hn : e.nm.size ≤ 100000) (w : World) (hm : HasMax w) : Calls Tryd.prog 52 #[.agg #[.string e.nm, .int .u8 e.kd, .int .i64 e.md, .int .i64 e.ui, .int .i64 e.gi, .int .i64 e.sz, .int .i64 e.ts, .int .i64 e.tn, .string e.lk, .string e.us, .string e.gr, .int .i64 e.ma, .int .i64 e.mi, .string e.dt, .slice e.pa e.pn e.pc]] w fun x w' => x = .returned (.string (clnN e.nm)) ∧ Ext w w' := by
  have C1 := Lib.hid (fun w hm => clean_any e.nm hn w hm)
  have hd : Hid (clnN e.nm = joinV (cleanV ddB (partsB e.nm)).1) := Lib.hid rfl
  have h5 := ok.dt
  generalize joinV (cleanV ddB (partsB e.nm)).1 = t at *
  generalize (cleanV ddB (partsB e.nm)).2 = b at *
  go_enter Tryd.func52, Tryd.ntmps52
  go_wp2_with fail
  refine (C1.out _ (hm.ext ((Ext.refl w).alloc _))).mono ?_; rintro e w1 ⟨rfl, hx1⟩
  go_wp2_with fail
  go_ret
  exact ⟨ret_val (by rw [hd.out]; rfl), Ext.trans ((Ext.refl w).alloc _) hx1⟩

/-- A member with a name that is not too long. -/
abbrev SmEnt := { e : Ent // e.Ok ∧ e.nm.size ≤ 100000 }
instance : Inhabited SmEnt := ⟨⟨⟨⟨#[]⟩, 0, 0, 0, 0, 0, 0, 0, ⟨#[]⟩, ⟨#[]⟩, ⟨#[]⟩, 0, 0, ⟨#[]⟩, none, 0, 0⟩, ⟨by decide, by decide, by decide, by decide, by decide, by decide, by decide, by decide⟩, by decide⟩⟩

/-- Are two texts the same? -/
def sameN (a b : ByteArray) : Bool := a.toList == b.toList
theorem sameN_symm (a b : ByteArray) : sameN a b = sameN b a := by unfold sameN; exact Bool.beq_comm
set_option maxHeartbeats 4000000 in
set_option maxRecDepth 100000 in
theorem same_pred (e : SmEnt) (g : Nat) (w : World) (hm : HasMax w) (hb : EntAt w g e.1) :
    PredBelow Tryd.prog 51 #[.pointer (some ⟨g, 0, none⟩)] (fun x : SmEnt => .agg x.1.cells.toArray) (fun x => sameN (clnN x.1.nm) (clnN e.1.nm)) w := fun W x hB => by
  have hE : Ext w W := hB
  have hb' := hb.ext hE
  have hlt := hb'.lt
  obtain ⟨e, ok, hn⟩ := e
  obtain ⟨x, okx, hnx⟩ := x
  have C1 := Lib.hid (fun W1 (hE1 : Ext W W1) => clean_box e ok hn W1 (hm.ext (hE.trans hE1)))
  have C2 := Lib.hid (fun W1 (hE1 : Ext W W1) => clean_box x okx hnx W1 (hm.ext (hE.trans hE1)))
  have hd : Hid (sameN (clnN x.nm) (clnN e.nm) = ((clnN x.nm).toList == (clnN e.nm).toList)) := Lib.hid rfl
  have hx0 : Ext W (W.alloc (.cells #[.string x.nm, .int .u8 x.kd, .int .i64 x.md, .int .i64 x.ui, .int .i64 x.gi, .int .i64 x.sz, .int .i64 x.ts, .int .i64 x.tn, .string x.lk, .string x.us, .string x.gr, .int .i64 x.ma, .int .i64 x.mi, .string x.dt, .slice x.pa x.pn x.pc] 94)) := (Ext.refl W).alloc _
  show Calls Tryd.prog 51 #[.agg #[.string x.nm, .int .u8 x.kd, .int .i64 x.md, .int .i64 x.ui, .int .i64 x.gi, .int .i64 x.sz, .int .i64 x.ts, .int .i64 x.tn, .string x.lk, .string x.us, .string x.gr, .int .i64 x.ma, .int .i64 x.mi, .string x.dt, .slice x.pa x.pn x.pc], .pointer (some ⟨g, 0, none⟩)] W fun q w' => q = .returned (.bool (sameN (clnN x.nm) (clnN e.nm))) ∧ Below w.heap.size w w'
  refine Calls.mono (R := fun q w' => q = .returned (.bool (sameN (clnN x.nm) (clnN e.nm))) ∧ Ext W w') ?_ fun q w' ⟨h1, h2⟩ => ⟨h1, hE.trans h2⟩
  dsimp only at hb'
  obtain ⟨g0, g1, g2, g3, g4, g5, g6, g7, g8, g9, g10, g11, g12, g13, g14⟩ := hb'
  have hlt1 : g < W.heap.size + 1 := by omega
  clear hb hB
  generalize clnN x.nm = a at *
  generalize clnN e.nm = c at *
  go_enter Tryd.func51, Tryd.ntmps51
  go_wp2_with fail
  refine wp_region_det (Stood _) (by kernel_rfl) (by kernel_rfl) (Stood.start _) ?_
  repeat (first
    | (refine det_skip (by rfl) ?_; simp only [Act.put, List.setIfInBounds_toArray, List.set_cons_zero, List.set_cons_succ])
    | (refine det_op (v := ?_) rfl (by rfl) (fun w' hS => ?_) ?_; rotate_left; (focus (obtain ⟨hcl, hxt⟩ := hS; go_wp2_with (first | ((with_reducible refine (C1.out _ (Ext.trans hx0 hxt)).mono ?_); rintro e w1 ⟨rfl, hx1⟩) | ((with_reducible refine (C2.out _ (Ext.trans hx0 hxt)).mono ?_); rintro e w1 ⟨rfl, hx1⟩)); (first | refine ⟨?_, rfl, hcl, hxt⟩ | refine ⟨?_, rfl, Stood.of (hxt.trans (by assumption))⟩); (first | (simp only [List.getElem?_toArray, List.getElem?_cons_succ, List.getElem?_cons_zero]; rfl) | rfl))); simp only [Act.put, List.setIfInBounds_toArray, List.set_cons_zero, List.set_cons_succ]))
  refine det_end ?_
  intro w2 hS
  have hx := hS.2
  clear hS
  go_wp2_with fail
  go_ret
  exact ⟨ret_bool (by rw [hd.out]), hx0.trans hx⟩
end Go.Proofs.YtedcibjnnihhfaaDoor
