/-
  The parts of a name: path.Parts and the reference's Parts.
-/
import Derived.Test.YtiiaoagobjgkiaaGreatDoorStrs
import Derived.Test.YtiiaoagobjgkiaaGreatDoorWords
import Derived.Test.YtiiaoagobjgkiaaGreatDoorShelf
import Derived.Shelf.SlicesE.DeleteFunc
namespace Go.Proofs.YtiiaoagobjgkiaaGreatDoor
open Go.RowKit Go.WideShapes Go.Sort

/-- What strings.Split reads: a number. -/
def HasMax (w : World) : Prop := ∃ m : Int, w.cell? ⟨1, 0, none⟩ = some (.int .i64 m)
theorem HasMax.ext {w w' : World} (h : HasMax w) (hE : Ext w w') : HasMax w' := h.imp fun _ hm => hE.cell hm
theorem HasMax.ofShaped {w : World} (h : w.ShapedOpen Tryz.prog) : HasMax w :=
  Go.Proofs.cell_of_shapedOpen_int (zero := #[.int .i64 0]) (t := 3) h (of_decide_eq_true (by kernel_rfl)) (by kernel_rfl) rfl (by kernel_rfl) (by kernel_rfl) Tryz.underlying3

theorem putRow_ext {α : Type} [Inhabited α] (enc : α → Value) {w W : World} (h : Ext w W) (q blk off : Nat) (hb : w.heap.size ≤ blk) (d : Array α) : Ext w (putRow enc (Sort.ahead W q) blk off d) := by
  refine Below.trans h ⟨rfl, rfl, rfl, by rw [size_putRow]; exact Nat.le_refl _, fun k hk => ?_⟩
  unfold putRow mapBlock
  simp only [Array.getElem?_modify]
  rw [if_neg (by omega)]
  rfl

/-- A list of texts comes back; nothing old has turned. -/
def GivesStrs (l : List ByteArray) (w : World) (e : Ending) (w' : World) : Prop := ∃ v, e = .returned v ∧ IsStrs w' v l ∧ Ext w w'

theorem keep_gives (x : ByteArray) (W : World) : FnGives Tryz.prog 93 #[] #[.string x] (.bool (!keepB x)) W := by
  show Calls Tryz.prog 93 #[.string x] W _
  have hk : Hid (keepB x = !(x.toList == [] || x.toList == [46])) := Lib.hid (by unfold keepB keepL; rw [ByteArray.toList_eq])
  go_enter Tryz.func93, Tryz.ntmps93
  go_wp2_with fail
  all_goals (go_ret; exact ⟨ret_bool (by rw [hk.out]; simp_all), 0, rfl⟩)

set_option maxHeartbeats 1600000 in
set_option maxRecDepth 100000 in
theorem parts_any (s : ByteArray) (hs : s.size < 4294967281) (w : World) (hm : HasMax w) : Calls Tryz.prog 52 #[.string s] w (GivesStrs (partsB s) w) := by
  obtain ⟨m, hm⟩ := hm
  have hsp := Tryz.strings_Split s ⟨#[47]⟩ m w hs hm (by decide)
  obtain ⟨d, hd⟩ : ∃ d : Array ByteArray, d = (piecesB s).toArray := ⟨_, rfl⟩
  have hdn : Lib.countB s ⟨#[47]⟩ + 1 = d.size := by rw [hd, ← pieces_len]; simp
  have hdl : d.size ≤ s.size + 1 := by rw [hd]; simpa using pieces_le s
  have hcells : ((Lib.splitB ⟨#[47]⟩ 0 (Lib.countB s ⟨#[47]⟩) s).map Value.string).toArray = d.map Value.string := by rw [hd]; simp [piecesB]
  rw [hcells, hdn] at hsp
  have Hsp := Lib.hid hsp
  have hp : Hid (partsB s = d.toList.filter fun x => !!keepB x) := Lib.hid (by rw [hd]; simp [partsB])
  clear hsp hcells hdn hd
  have hH : Holds Value.string (w.alloc (.cells (d.map Value.string) 9)) w.heap.size 0 d := fun j hj => ⟨by simp [hj], by simp⟩
  have hdf := Tryz.slices_DeleteFunc Value.string (fun _ => rfl) (fun x => !keepB x) 93 #[] (enters_of Tryz.func93 (by kernel_rfl) rfl) ⟨#[]⟩ Tryz.zeroValue9 w.heap.size 0 d.size d (w.alloc (.cells (d.map Value.string) 9))
    (fun W x _ => keep_gives x W) (fun n os dk x _ => keep_gives x _) hH (by omega) (Nat.le_refl _)
  have Hdf := Lib.hid hdf
  clear hdf
  have hl : (d.toList.filter fun x => !!keepB x).length ≤ d.size := by simpa using List.length_filter_le _ d.toList
  generalize (d.toList.filter fun x => !!keepB x) = r at *
  go_enter Tryz.func52, Tryz.ntmps52
  go_wp2_with fail
  refine Hsp.out.mono ?_; rintro e w1 ⟨rfl, rfl⟩
  go_wp2_with fail
  refine Hdf.out.mono ?_; rintro e w2 ⟨rfl, q, rfl⟩
  go_wp2_with fail
  go_ret
  refine ⟨_, rfl, ?_, putRow_ext _ ((Ext.refl w).alloc _) _ _ _ (Nat.le_refl _) _⟩
  rw [hp.out]
  refine .inr ⟨w.heap.size, 0, d.size, rfl, hl, by unfold maxLen; omega, fun k hk => ?_⟩
  have hH' : Holds Value.string (Sort.ahead (w.alloc (.cells (d.map Value.string) 9)) q) w.heap.size 0 d := holds_ahead _ _ _ _ _ _ hH
  have := cell?_putRow Value.string _ w.heap.size 0 d ((r ++ List.replicate (d.size - r.length) (⟨#[]⟩ : ByteArray)).toArray) hH' (by simp; omega) k (by simp; omega)
  rw [this]
  congr 2
  rw [getElem!_pos _ k (by simp; omega)]
  simp [hk]

theorem infoStr : (Tryz.prog.info? 9).map (fun i => (i.zero, i.size, i.bytes)) = some (some (.string ByteArray.empty), 1, 16) := by kernel_rfl
theorem owns_lt {w : World} {base : Nat} {v : Value} {n : Nat} {xs : List Value} (h : w.ownsRow base 9 1 v n xs) {B : Nat} (hB : B ≤ base) : ∀ k, v.ownBlock = some k → B ≤ k := fun k hk => Nat.le_trans hB (World.ownsRow.lt h k hk).1

/-- The parts among the first pieces. -/
def keepT (l : List ByteArray) (k : Nat) : List ByteArray := (l.take k).filter keepB
theorem keepT_hit {l : List ByteArray} {k : Nat} (h : k < l.length) (hk : keepB l[k] = true) : keepT l (k + 1) = keepT l k ++ [l[k]] := by
  unfold keepT
  rw [List.take_succ_eq_append_getElem h, List.filter_append]
  simp [hk]
theorem keepT_miss {l : List ByteArray} {k : Nat} (h : k < l.length) (hk : keepB l[k] = false) : keepT l (k + 1) = keepT l k := by
  unfold keepT
  rw [List.take_succ_eq_append_getElem h, List.filter_append]
  simp [hk]
theorem keepT_len (l : List ByteArray) (k : Nat) : (keepT l k).length ≤ k := by
  unfold keepT
  exact Nat.le_trans (List.length_filter_le _ _) (List.length_take_le _ _)
theorem keepT_all (l : List ByteArray) : keepT l l.length = l.filter keepB := by unfold keepT; rw [List.take_length]

set_option maxHeartbeats 1600000 in
set_option maxRecDepth 100000 in
theorem refParts_any (s : ByteArray) (hs : s.size ≤ 1000000) (w : World) (hm : HasMax w) : Calls Tryz.prog 90 #[.string s] w (GivesStrs (partsB s) w) := by
  obtain ⟨i0, hi, hz0, hz1, hz2⟩ := info_parts infoStr
  obtain ⟨m, hm⟩ := hm
  have hsp := Tryz.strings_Split s ⟨#[47]⟩ m w (by omega) hm (by decide)
  obtain ⟨l, hl⟩ : ∃ l : List ByteArray, l = piecesB s := ⟨_, rfl⟩
  have hln : Lib.countB s ⟨#[47]⟩ + 1 = l.length := by rw [hl, ← pieces_len]
  have hll : l.length ≤ 1000001 := by rw [hl]; have := pieces_le s; omega
  have hcells : ((Lib.splitB ⟨#[47]⟩ 0 (Lib.countB s ⟨#[47]⟩) s).map Value.string).toArray = (l.map Value.string).toArray := by rw [hl]; rfl
  rw [hcells, hln] at hsp
  have Hsp := Lib.hid hsp
  have hp : Hid (partsB s = keepT l l.length) := Lib.hid (by rw [keepT_all, hl]; rfl)
  clear hsp hcells hln hl
  have hc : Hid (∀ j (h : j < l.length), (w.alloc (.cells (l.map Value.string).toArray 9)).cell? ⟨w.heap.size, 0 + j, none⟩ = some (.string l[j])) := Lib.hid (fun j hj => by simp [hj])
  go_enter Tryz.func90, Tryz.ntmps90
  go_wp2_with fail
  refine Hsp.out.mono ?_; rintro e w1 ⟨rfl, rfl⟩
  go_wp2_with fail
  go_loopw [3, 9] (fun v i wr => ∃ k : Nat, k ≤ l.length ∧ i = .int .i64 (k : Int) ∧ wr.ownsRow (w.heap.size + 1) 9 1 v (keepT l k).length ((keepT l k).map Value.string) ∧ Ext (w.alloc (.cells (l.map Value.string).toArray 9)) wr) (fun _ i _ => l.length - (intOf i).toNat)
  case atStart => exact ⟨0, by omega, rfl, World.ownsRow_nil _ _ _ _, Ext.refl _⟩
  case round =>
    obtain ⟨k, hk, rfl, hown, hE⟩ := hrel
    have hkl := keepT_len l k
    by_cases hlt : k < l.length
    · have g1 := hE.cell (hc.out k hlt)
      rw [Nat.zero_add] at g1
      have hkk : Hid (keepB l[k] = !(l[k].toList == [] || l[k].toList == [46])) := Lib.hid (by unfold keepB keepL; rw [ByteArray.toList_eq])
      have hh : Hid (keepB l[k] = true → keepT l (k + 1) = keepT l k ++ [l[k]]) := Lib.hid (keepT_hit hlt)
      have hmi : Hid (keepB l[k] = false → keepT l (k + 1) = keepT l k) := Lib.hid (keepT_miss hlt)
      have hz := hE.size
      rw [World.size_alloc] at hz
      generalize l[k] = x at *
      go_wp2_with (at_builtin; refine wpList_append_own _ rfl _ _ 22 rfl (w.heap.size + 1) 9 i0 (.string ByteArray.empty) 1 16 Tryz.underlying22 hi hz0 hz1 hz2 rfl (by decide) _ _ _ rfl (hown.alloc _) ⟨wr.heap.size, 0, none⟩ 1 1 [.string x] rfl rfl ?c1 ?c2 ?c3 ?c4 ?c5 ?_)
      case c1 =>
        intro j u hj
        match j, hj with
        | 0, hj => simp at hj; subst hj; simp [Addr.add]
      case c2 => intro u hu; simp at hu; subst hu; rfl
      case c3 => unfold maxLen; omega
      case c4 => omega
      case c5 => simp; omega
      · intro v' w1 hown' hgrow _
        have t1 : x.toList.isEmpty = false := by assumption
        have t2 : (!x.toList == [46]) = true := by assumption
        have hK := hh.out (by rw [hkk.out]; have t3 : (x.toList == [46]) = false := by simpa using t2
                              have t4 : (x.toList == []) = false := by rw [beq_eq_false_iff_ne]; intro e; rw [e] at t1; cases t1
                              rw [t3, t4]; rfl)
        have hE' : Ext (w.alloc (.cells (l.map Value.string).toArray 9)) w1 := (hE.alloc _).ofGrown hgrow (fun j hj => by rw [World.size_alloc]; exact owns_lt hown (Nat.le_refl _) j hj)
        have Hown : Hid (w1.ownsRow (w.heap.size + 1) 9 1 v' (keepT l (k + 1)).length ((keepT l (k + 1)).map Value.string)) := Lib.hid (by rw [hK]; simpa using hown')
        clear hown hown' hgrow hK
        go_wp2_with fail
        go_roundw
        case rel => exact ⟨k + 1, hlt, by go_num, Hown.out, hE'⟩
        case measure => simp [intOf]; omega
      · have t2 : (!x.toList == [46]) = false := by assumption
        have hK := hmi.out (by rw [hkk.out]; have t3 : (x.toList == [46]) = true := by simpa using t2
                               rw [t3]; simp)
        go_roundw
        case rel => exact ⟨k + 1, hlt, by go_num, by rw [hK]; exact hown, hE⟩
        case measure => simp [intOf]; omega
      · have t1 : x.toList.isEmpty = true := by assumption
        have hK := hmi.out (by rw [hkk.out]; have t3 : (x.toList == []) = true := by simpa using t1
                               rw [t3]; simp)
        go_roundw
        case rel => exact ⟨k + 1, hlt, by go_num, by rw [hK]; exact hown, hE⟩
        case measure => simp [intOf]; omega
    · obtain rfl : k = l.length := by omega
      go_wp2_with fail
      go_ret
      refine ⟨_, rfl, ?_, Ext.trans ((Ext.refl w).alloc _) hE⟩
      rw [hp.out]
      exact IsStrs.ofOwns hown
end Go.Proofs.YtiiaoagobjgkiaaGreatDoor
