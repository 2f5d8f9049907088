/-
  The parts of a name: path.Parts and the reference's Parts.
-/
import Derived.Test.YtbofobakphlpbaaDoorStrs
import Derived.Test.YtbofobakphlpbaaDoorWords
import Derived.Test.YtbofobakphlpbaaDoorShelf
import Derived.Shelf.SlicesE.DeleteFunc
namespace Go.Proofs.YtbofobakphlpbaaDoor
open Go.RowKit Go.WideShapes Go.Sort

/-- What strings.Split reads: a number. -/
def HasMax (w : World) : Prop := ∃ m : Int, w.cell? ⟨1, 0, none⟩ = some (.int .i64 m)
theorem HasMax.ext {w w' : World} (h : HasMax w) (hE : Ext w w') : HasMax w' := h.imp fun _ hm => hE.cell hm
theorem HasMax.ofShaped {w : World} (h : w.ShapedOpen Tryd.prog) : HasMax w :=
  Go.Proofs.cell_of_shapedOpen_int (zero := #[.int .i64 0]) (t := 3) h (of_decide_eq_true (by kernel_rfl)) (by kernel_rfl) rfl (by kernel_rfl) (by kernel_rfl) Tryd.underlying3

theorem putRow_ext {α : Type} [Inhabited α] (enc : α → Value) {w W : World} (h : Ext w W) (q blk off : Nat) (hb : w.heap.size ≤ blk) (d : Array α) : Ext w (putRow enc (Sort.ahead W q) blk off d) := by
  refine Below.trans h ⟨rfl, rfl, rfl, by rw [size_putRow]; exact Nat.le_refl _, fun k hk => ?_⟩
  unfold putRow mapBlock
  simp only [Array.getElem?_modify]
  rw [if_neg (by omega)]
  rfl

/-- A list of texts comes back; nothing old has turned. -/
def GivesStrs (l : List ByteArray) (w : World) (e : Ending) (w' : World) : Prop := ∃ v, e = .returned v ∧ IsStrs w' v l ∧ Ext w w'

theorem infoStr : (Tryd.prog.info? 9).map (fun i => (i.zero, i.size, i.bytes)) = some (some (.string ByteArray.empty), 1, 16) := by kernel_rfl
theorem owns_lt {w : World} {base : Nat} {v : Value} {n : Nat} {xs : List Value} (h : w.ownsRow base 9 1 v n xs) {B : Nat} (hB : B ≤ base) : ∀ k, v.ownBlock = some k → B ≤ k := fun k hk => Nat.le_trans hB (World.ownsRow.lt h k hk).1

/-- The parts among the first pieces. -/
def keepT (l : List ByteArray) (k : Nat) : List ByteArray := (l.take k).filter keepB
theorem keepT_hit {l : List ByteArray} {k : Nat} (h : k < l.length) (hk : keepB l[k] = true) : keepT l (k + 1) = keepT l k ++ [l[k]] := by
  unfold keepT
  rw [List.take_succ_eq_append_getElem h, List.filter_append]
  simp [hk]
theorem keepT_miss {l : List ByteArray} {k : Nat} (h : k < l.length) (hk : keepB l[k] = false) : keepT l (k + 1) = keepT l k := by
  unfold keepT
  rw [List.take_succ_eq_append_getElem h, List.filter_append]
  simp [hk]
theorem keepT_len (l : List ByteArray) (k : Nat) : (keepT l k).length ≤ k := by
  unfold keepT
  exact Nat.le_trans (List.length_filter_le _ _) (List.length_take_le _ _)
theorem keepT_all (l : List ByteArray) : keepT l l.length = l.filter keepB := by unfold keepT; rw [List.take_length]

end Go.Proofs.YtbofobakphlpbaaDoor
