/-
  strconv.Atoi at digits; a result's two cells. No conditions.
-/
import Derived.Test.YtbofobakphlpbaaGreatDoorTpV
import Derived.Test.YtbofobakphlpbaaGreatDoorTime
import Derived.Test.YtbofobakphlpbaaGreatDoorShelf
namespace Go.Proofs.YtbofobakphlpbaaGreatDoor
open Go.RowKit Go.WideShapes Go.PlainAid

theorem bytesW_ext (w : World) (t : TypeId) (k : ByteArray) : Ext w (Lib.bytesWorld w t k) := by
  refine ⟨rfl, rfl, rfl, ?_, fun b hb => ?_⟩
  · show w.heap.size ≤ ((w.drew.alloc _).freeze _ _).heap.size
    simp [World.freeze]
  · show ((w.drew.alloc _).freeze _ _).heap[b]? = _
    have h2 : ((w.drew.alloc (Obj.cells (Lib.bytesCells w t k) t)).heap)[b]? = w.heap[b]? := by
      show (w.heap.push _)[b]? = _
      rw [Array.getElem?_push_lt hb, Array.getElem?_eq_getElem hb]
    rw [← h2]
    simp only [World.freeze]
    rw [if_neg (by decide)]
    show ((w.drew.alloc (Obj.cells (Lib.bytesCells w t k) t)).heap.modify w.heap.size _)[b]? = _
    rw [Array.getElem?_modify, if_neg (by omega)]
theorem atoi_num_any (u : ByteArray) (hl : u.size ≤ 18) (hd : u.data.toList.all dig = true) (hne : u.data.toList ≠ []) (w : World) :
    Calls Tryz.prog 44 #[.string u] w fun e w' => e = .returned (.tuple #[.int .i64 ((numL 0 u.data.toList : Nat) : Int), .nilIface]) ∧ Ext w w' :=
  (Tryz.strconv_Atoi u _ hl (atoi_num hd hne) w).mono fun _ _ ⟨h, k⟩ => ⟨h, by obtain ⟨t, rfl⟩ := k; exact bytesW_ext _ _ _⟩
theorem one_b (b : Bool) (w : World) : Calls Tryz.prog 45 #[.bool b] w fun e w' => e = .returned (.int .i64 ((b.toNat : Nat) : Int)) ∧ w' = w := by
  cases b
  all_goals
    go_enter Tryz.func45, Tryz.ntmps45
    go_wp2_with fail
    go_ret
    exact ⟨rfl, rfl⟩
theorem tp_box {w W : World} {a b : Int} {t : TypeId} (h : Ext (w.alloc (.cells #[.int .i64 a, .int .i64 b] t)) W) :
    W.cell? ⟨w.heap.size, 0, none⟩ = some (.int .i64 a) ∧ W.cell? ⟨w.heap.size, 1, none⟩ = some (.int .i64 b) ∧ W.frozen? ⟨w.heap.size, 0, none⟩ = false ∧ W.frozen? ⟨w.heap.size, 1, none⟩ = false ∧ w.heap.size < W.heap.size := by
  have h1 := h.cell (show (w.alloc (.cells #[.int .i64 a, .int .i64 b] t)).cell? ⟨w.heap.size, 0, none⟩ = some (.int .i64 a) by simp)
  have h2 := h.cell (show (w.alloc (.cells #[.int .i64 a, .int .i64 b] t)).cell? ⟨w.heap.size, 1, none⟩ = some (.int .i64 b) by simp)
  exact ⟨h1, h2, by rw [h.frozens _ _ (by simp)]; simp, by rw [h.frozens _ _ (by simp)]; simp, World.block_lt_of_cell? W _ h1⟩
theorem tp_put {W : World} {g : Nat} {a b : Value} (h1 : W.cell? ⟨g, 0, none⟩ = some a) (h2 : W.cell? ⟨g, 1, none⟩ = some b) (x y : Value) :
    (W.setCell ⟨g, 0, none⟩ x).cell? ⟨g, 0, none⟩ = some x ∧ ((W.setCell ⟨g, 0, none⟩ x).setCell ⟨g, 1, none⟩ y).cell? ⟨g, 1, none⟩ = some y := by
  refine ⟨World.cell?_setCell_same' _ _ _ (by rw [h1]; rfl), World.cell?_setCell_same' _ _ _ ?_⟩
  rw [World.cell?_setCell_other (h := fun he => by injection he; omega), h2]
  rfl

end Go.Proofs.YtbofobakphlpbaaGreatDoor
