/-
  hole.Put and the reference's MapPut: bytes put into their pieces.
-/
import Derived.Test.YtbofobakphlpbaaGreatDoorPutV
import Derived.Test.YtbofobakphlpbaaGreatDoorBare
import Derived.Test.YtbofobakphlpbaaGreatDoorHole
import Derived.Test.YtbofobakphlpbaaGreatDoorBytes
import Derived.Lib.BufferWrite
import Derived.StillTailTactics
namespace Go.Proofs.YtbofobakphlpbaaGreatDoor
open Go.RowKit Go.WideShapes

theorem infoU8p : (Tryz.prog.info? 5).map (·.size) = some 1 := by kernel_rfl

/-- 'copy(b[k:], s)' with s a text that fits, as one step of a region's list. -/
theorem wpList_copy_str {P : Program} {w : World} {ops : Array Oper} {rest : List Oper} {o : Oper} {a : Act} {Q : Exit → Act → World → Prop} (hgd : o.guard = none) (d x : Operand) (dT sT : TypeId)
    (ho : o.op = .call { callee := .builtin .copy, args := #[d, x], argTypes := #[dT, sT] }) (elem : TypeId) (hu : P.underlying dT = some (.slice elem)) (hsz : (P.info? elem).map (·.size) = some 1)
    (g off dLen dCap : Nat) (s : ByteArray) (cur : List Value) (t : TypeId) (hd : a.eval d = .slice (some ⟨g, off, none⟩) dLen dCap) (hx : a.eval x = .string s)
    (hg : w.heap[g]? = some (.cells cur.toArray t (0, 0))) (hle : s.size ≤ dLen) (hfit : off + s.size ≤ cur.length)
    (w0 : World) (B : Nat) (hB : Below B w0 w) (hBg : B ≤ g)
    (h : ∀ w', Hid (w'.heap[g]? = some (.cells (splice cur off (Lib.byteCells s.data.toList)).toArray t (0, 0))) → Below B w0 w' → Hid (w'.heap.size = w.heap.size) → Hid (∀ b o, b ≠ g → w'.cell? ⟨b, o, none⟩ = w.cell? ⟨b, o, none⟩) → wpList P ops Q rest (a.put o.dst (goInt s.size)) w') : wpList P ops Q (o :: rest) a w := by
  refine wpList_plain hgd fun K hK => ?_
  have hrun := Lib.run_copy_row_string (P := P) w dT sT o.type elem g off dLen dCap s cur.toArray t hu hsz hg hle (by simpa using hfit)
  have hl : (Lib.byteCells s.data.toList).length = s.size := by simp [Lib.byteCells]
  have e : (splice cur off (Lib.byteCells s.data.toList)).toArray = (List.take off cur.toArray.toList ++ Lib.byteCells s.data.toList ++ List.drop (off + s.size) cur.toArray.toList).toArray := by
    unfold splice
    rw [hl]
    simp
  unfold Oper.wp
  simp [execOp, ho, resolve, invoke, builtin, hd, hx, hrun, Result.andThen]
  refine hK _ _ (h _ (Lib.hid ?_) (below_setRow hB hBg _) (Lib.hid (by simp)) (Lib.hid fun b o hb => cell_setRow_other _ _ _ _ hb))
  rw [e]
  have := setRow_heap w g cur.toArray (List.take off cur.toArray.toList ++ Lib.byteCells s.data.toList ++ List.drop (off + s.size) cur.toArray.toList).toArray t (0, 0) hg
  simpa using this

/-- Reads, then one operation that writes: the region's law with the drawn world under its own name. -/
theorem wp_region_tail {P : Program} {id : Nat} {Q : Exit → Act → World → Prop} {a : Act} {w : World} {l : List Oper} (n : Nat) (hm : P.follows .mixedOrders = true) (hB : Region.lexTailB .any l.toArray n = true)
    (h : wpStill P l.toArray w.drew (fun a' => wpList P l.toArray Q (l.drop n) a' w.drew) (l.take n) a) : (Code.region id l.toArray true).wp P Q a w := wp_region_still_tail n hm hB h
/-- The bytes of a piece, and what is behind it. -/
theorem piece_take {t : ByteArray} {d : List UInt8} {a n : Nat} (h : t.data.toList = d.drop a) (hn : a + n ≤ d.length) : n ≤ t.size ∧ (t.extract 0 n).data.toList = (d.drop a).take n ∧ (t.extract 0 n).size = n ∧ (t.extract n t.size).data.toList = d.drop (a + n) := by
  have hs : t.size = d.length - a := by
    have := congrArg List.length h
    simp at this
    exact this
  refine ⟨by omega, ?_, by rw [ByteArray.size_extract]; omega, ?_⟩
  · rw [ByteArray.data_extract, Array.toList_extract, List.extract_eq_take_drop, h]
    simp
  · rw [ByteArray.data_extract, Array.toList_extract, List.extract_eq_take_drop, h, List.drop_drop]
    rw [List.take_of_length_le (by simp; omega)]

/-- Between two rounds of Put. -/
def PutRel (d : ByteArray) (n : Nat) (A S : Nat → Int) (z g : Nat) (w : World) (dv i : Value) (wr : World) : Prop :=
  ∃ (k : Nat) (t : ByteArray), k ≤ n ∧ dv = .string t ∧ i = .int .i64 (k : Int) ∧ t.size ≤ 600 ∧ Hid (t.data.toList = d.data.toList.drop (sN S k)) ∧
    Hid (wr.heap[g]? = some (.cells (Lib.byteCells (rowP d.data.toList A S z k)).toArray 5 (0, 0))) ∧ Ext w wr ∧ g < wr.heap.size
theorem byteCells_splice (L : List UInt8) (off : Nat) (cs : List UInt8) : splice (Lib.byteCells L) off (Lib.byteCells cs) = Lib.byteCells (splice L off cs) := by
  unfold splice Lib.byteCells
  simp [List.map_take, List.map_drop]
theorem byteCells_len (L : List UInt8) : (Lib.byteCells L).length = L.length := by simp [Lib.byteCells]
theorem zeros_made (z : Nat) : madeCells #[Value.int .u8 0] z = (Lib.byteCells (List.replicate z 0)).toArray := by
  apply Array.ext
  · simp [size_madeCells, Lib.byteCells]
  · intro i h1 h2
    simp [madeCells, Nat.mod_one, Lib.byteCells]
theorem infoU8q : (Tryz.prog.info? 5).map (fun i => (i.zero, i.size, i.bytes)) = some (some (.int .u8 0), 1, 1) := by kernel_rfl
theorem bytesAt_of {w : World} {g : Nat} {L : List UInt8} (h : w.heap[g]? = some (.cells (Lib.byteCells L).toArray 5 (0, 0))) : BytesAt w g L :=
  ⟨fun j hj => by simp [World.cell?, h, Lib.byteCells, hj], fun j _ => by simp [World.frozen?, h]⟩

end Go.Proofs.YtbofobakphlpbaaGreatDoor
