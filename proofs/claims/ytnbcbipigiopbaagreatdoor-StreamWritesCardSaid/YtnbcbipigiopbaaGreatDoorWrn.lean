/-
  member.written and the reference's whole: a header under a name, and the bytes, filled up. No conditions but the arguments' bounds.
-/
import Derived.Test.YtnbcbipigiopbaaGreatDoorHeadWz
import Derived.Test.YtnbcbipigiopbaaGreatDoorHeadGood
import Derived.Test.YtnbcbipigiopbaaGreatDoorPkG
import Derived.Laws.Tables
import Derived.Laws.Rows
import Derived.Laws.CopyOwn
import Derived.Deep.OwnRows
namespace Go.Proofs.YtnbcbipigiopbaaGreatDoor
open Go.RowKit Go.WideShapes

theorem splitV_parts (s : ByteArray) : ∃ a b c, splitV s = .tuple #[.string a, .string b, .bool c] ∧ a.size ≤ s.size ∧ b.size ≤ s.size := by
  unfold splitV
  split
  · exact ⟨_, _, _, rfl, Nat.zero_le _, Nat.le_refl _⟩
  · split
    · exact ⟨_, _, _, rfl, by rw [ByteArray.size_extract]; omega, by rw [ByteArray.size_extract]; omega⟩
    · exact ⟨_, _, _, rfl, Nat.zero_le _, Nat.zero_le _⟩

def rawA (nm lk us gr fr : ByteArray) (kd md ui gi sz tm ma mi : Int) : Array Value := #[.string nm, .string lk, .string us, .string gr, .string fr, .int .u8 kd, .int .i64 md, .int .i64 ui, .int .i64 gi, .int .i64 sz, .int .i64 tm, .int .i64 ma, .int .i64 mi]
theorem rawA_one (nm lk us gr fr : ByteArray) (kd md ui gi sz tm ma mi : Int) : (rawA nm lk us gr fr kd md ui gi sz tm ma mi).all (·.oneCell') = true := by simp [rawA, Value.oneCell']
theorem infoRawP : (Tryz.prog.info? 76).map (·.size) = some 13 := by kernel_rfl
theorem infoRawR : (Tryz.prog.info? 59).map (·.size) = some 13 := by kernel_rfl
theorem rawA_cells {w : World} {g : Nat} {cs : Array Value} {t : TypeId} (h : w.heap[g]? = some (.cells cs t (0, 0))) {v : Value} (h1 : cs[1]? = some v) : w.cell? ⟨g, 1, none⟩ = some v ∧ w.frozen? ⟨g, 1, none⟩ = false := by
  refine ⟨?_, by simp [World.frozen?, h]⟩
  simp [World.cell?, h, h1]
/-- What written and whole return beside the error. -/
def wrnV (k : Int) (h bs : ByteArray) : ByteArray := if k = 0 then h ++ (bs ++ padB bs.size) else ⟨#[]⟩
theorem wrnV_good {k : Int} (h bs : ByteArray) (hk : k = 0) : wrnV k h bs = h ++ (bs ++ padB bs.size) := by unfold wrnV; rw [if_pos hk]
theorem wrnV_bad {k : Int} (h bs : ByteArray) (hk : k ≠ 0) : wrnV k h bs = ⟨#[]⟩ := by unfold wrnV; rw [if_neg hk]

set_option maxHeartbeats 1600000 in
set_option maxRecDepth 100000 in
theorem written_of (d : Int) (us gr : ByteArray) (kd md ui gi sz tm ma mi : Int) (s lk bs nm fr h : ByteArray) (ok : Bool) (k : Int) (hk2 : ok = false → k = 2) (hh : k = 0 → h.size = 512) (hbs : bs.size ≤ 90000)
    (c1 : ∀ w, Calls Tryz.prog 59 #[.agg #[.string ⟨#[]⟩, .string lk, .string us, .string gr, .string ⟨#[]⟩, .int .u8 kd, .int .i64 md, .int .i64 ui, .int .i64 gi, .int .i64 sz, .int .i64 tm, .int .i64 ma, .int .i64 mi], .int .i64 d, .string s] w fun e w' => e = .returned (.tuple #[.agg #[.string nm, .string lk, .string us, .string gr, .string fr, .int .u8 kd, .int .i64 md, .int .i64 ui, .int .i64 gi, .int .i64 sz, .int .i64 tm, .int .i64 ma, .int .i64 mi], .bool ok]) ∧ Ext w w')
    (c2 : ok = true → ∀ w, HasMax w → Calls Tryz.prog 60 #[.int .i64 d, .agg #[.string nm, .string lk, .string us, .string gr, .string fr, .int .u8 kd, .int .i64 md, .int .i64 ui, .int .i64 gi, .int .i64 sz, .int .i64 tm, .int .i64 ma, .int .i64 mi]] w fun e w' => e = .returned (.tuple #[.string h, errOf k]) ∧ Ext w w') (w : World) (hm : HasMax w) :
    Calls Tryz.prog 45 #[.int .i64 d, .agg #[.string ⟨#[]⟩, .string ⟨#[]⟩, .string us, .string gr, .string ⟨#[]⟩, .int .u8 kd, .int .i64 md, .int .i64 ui, .int .i64 gi, .int .i64 sz, .int .i64 tm, .int .i64 ma, .int .i64 mi], .string s, .string lk, .string bs] w
      fun e w' => e = .returned (.tuple #[.string (wrnV k h bs), errOf k]) ∧ Ext w w' := by
  have C1 := Lib.hid c1
  have C3 := Lib.hid (fun w => fill_any bs (by omega) w)
  have hp := padB_size bs.size
  cases ok with
  | false =>
    obtain rfl := hk2 rfl
    rw [wrnV_bad h bs (by decide), errOf_ne (by decide)]
    clear c1 c2 hk2 hh C3
    go_enter Tryz.func45, Tryz.ntmps45
    go_wp2_with fail
    refine (C1.out _).mono ?_; rintro e w1 ⟨rfl, hx1⟩
    have hz1 : Ext w w1 := Ext.trans ((Ext.refl w).alloc _) hx1
    have HR := Lib.hid (show w1.heap[w.heap.size]? = some (.cells (rawA ⟨#[]⟩ lk us gr ⟨#[]⟩ kd md ui gi sz tm ma mi) 76 (0, 0)) from (hx1.block _ (by simp)).trans (World.alloc_heap_new w _))
    have HL := Lib.hid (setRow_heap w1 w.heap.size _ (rawA nm lk us gr fr kd md ui gi sz tm ma mi) _ _ HR.out)
    have hzr : Ext w (w1.setRow w.heap.size (rawA nm lk us gr fr kd md ui gi sz tm ma mi)) := below_setRow hz1 (Nat.le_refl _) _
    go_wp2_with (first | (refine wpList_store_row rfl 76 (.tmp 6) (.tmp 22) rfl w.heap.size (rawA nm lk us gr fr kd md ui gi sz tm ma mi) rfl rfl 76 _ HR.out infoRawP rfl (rawA_one _ _ _ _ _ _ _ _ _ _ _ _ _) ?_) | (refine wpList_load_row rfl 76 (.tmp 6) rfl w.heap.size rfl 76 (rawA nm lk us gr fr kd md ui gi sz tm ma mi) (0, 0) _ HL.out Tryz.underlying76 rfl infoRawP ?_))
    go_ret2
    exact ⟨rfl, hzr⟩
  | true =>
    have C2 := Lib.hid (c2 rfl)
    clear c1 c2 hk2
    by_cases hk : k = 0
    · have hz := hh hk
      subst hk
      rw [wrnV_good h bs rfl]
      rw [show errOf 0 = .nilIface from rfl] at *
      clear hh
      generalize padB bs.size = p at *
      go_enter Tryz.func45, Tryz.ntmps45
      go_wp2_with fail
      refine (C1.out _).mono ?_; rintro e w1 ⟨rfl, hx1⟩
      have hz1 : Ext w w1 := Ext.trans ((Ext.refl w).alloc _) hx1
      have HR := Lib.hid (show w1.heap[w.heap.size]? = some (.cells (rawA ⟨#[]⟩ lk us gr ⟨#[]⟩ kd md ui gi sz tm ma mi) 76 (0, 0)) from (hx1.block _ (by simp)).trans (World.alloc_heap_new w _))
      have HL := Lib.hid (setRow_heap w1 w.heap.size _ (rawA nm lk us gr fr kd md ui gi sz tm ma mi) _ _ HR.out)
      have hzr : Ext w (w1.setRow w.heap.size (rawA nm lk us gr fr kd md ui gi sz tm ma mi)) := below_setRow hz1 (Nat.le_refl _) _
      go_wp2_with (first | (refine wpList_store_row rfl 76 (.tmp 6) (.tmp 22) rfl w.heap.size (rawA nm lk us gr fr kd md ui gi sz tm ma mi) rfl rfl 76 _ HR.out infoRawP rfl (rawA_one _ _ _ _ _ _ _ _ _ _ _ _ _) ?_) | (refine wpList_load_row rfl 76 (.tmp 6) rfl w.heap.size rfl 76 (rawA nm lk us gr fr kd md ui gi sz tm ma mi) (0, 0) _ HL.out Tryz.underlying76 rfl infoRawP ?_))
      refine (C2.out _ (hm.ext hzr)).mono ?_; rintro e w2 ⟨rfl, hx2⟩
      go_wp2_with fail
      refine (C3.out _).mono ?_; rintro e w3 ⟨rfl, hx3⟩
      go_wp2_with fail
      go_ret2
      exact ⟨rfl, (hzr.trans hx2).trans hx3⟩
    · rw [wrnV_bad h bs hk]
      rw [errOf_ne hk] at *
      clear hh C3 hk
      go_enter Tryz.func45, Tryz.ntmps45
      go_wp2_with fail
      refine (C1.out _).mono ?_; rintro e w1 ⟨rfl, hx1⟩
      have hz1 : Ext w w1 := Ext.trans ((Ext.refl w).alloc _) hx1
      have HR := Lib.hid (show w1.heap[w.heap.size]? = some (.cells (rawA ⟨#[]⟩ lk us gr ⟨#[]⟩ kd md ui gi sz tm ma mi) 76 (0, 0)) from (hx1.block _ (by simp)).trans (World.alloc_heap_new w _))
      have HL := Lib.hid (setRow_heap w1 w.heap.size _ (rawA nm lk us gr fr kd md ui gi sz tm ma mi) _ _ HR.out)
      have hzr : Ext w (w1.setRow w.heap.size (rawA nm lk us gr fr kd md ui gi sz tm ma mi)) := below_setRow hz1 (Nat.le_refl _) _
      go_wp2_with (first | (refine wpList_store_row rfl 76 (.tmp 6) (.tmp 22) rfl w.heap.size (rawA nm lk us gr fr kd md ui gi sz tm ma mi) rfl rfl 76 _ HR.out infoRawP rfl (rawA_one _ _ _ _ _ _ _ _ _ _ _ _ _) ?_) | (refine wpList_load_row rfl 76 (.tmp 6) rfl w.heap.size rfl 76 (rawA nm lk us gr fr kd md ui gi sz tm ma mi) (0, 0) _ HL.out Tryz.underlying76 rfl infoRawP ?_))
      refine (C2.out _ (hm.ext hzr)).mono ?_; rintro e w2 ⟨rfl, hx2⟩
      go_wp2_with fail
      go_ret2
      exact ⟨rfl, hzr.trans hx2⟩

set_option maxHeartbeats 1600000 in
set_option maxRecDepth 100000 in
theorem whole_of (d : Int) (us gr : ByteArray) (kd md ui gi sz tm ma mi : Int) (s lk bs nm fr h : ByteArray) (ok : Bool) (k : Int) (hk2 : ok = false → k = 2) (hh : k = 0 → h.size = 512) (hbs : bs.size ≤ 90000)
    (c1 : ∀ w, Calls Tryz.prog 48 #[.agg #[.string ⟨#[]⟩, .string ⟨#[]⟩, .string us, .string gr, .string ⟨#[]⟩, .int .u8 kd, .int .i64 md, .int .i64 ui, .int .i64 gi, .int .i64 sz, .int .i64 tm, .int .i64 ma, .int .i64 mi], .int .i64 d, .string s] w fun e w' => e = .returned (.tuple #[.agg #[.string nm, .string ⟨#[]⟩, .string us, .string gr, .string fr, .int .u8 kd, .int .i64 md, .int .i64 ui, .int .i64 gi, .int .i64 sz, .int .i64 tm, .int .i64 ma, .int .i64 mi], .bool ok]) ∧ Ext w w')
    (c2 : ok = true → ∀ w, HasMax w → Calls Tryz.prog 49 #[.int .i64 d, .agg #[.string nm, .string lk, .string us, .string gr, .string fr, .int .u8 kd, .int .i64 md, .int .i64 ui, .int .i64 gi, .int .i64 sz, .int .i64 tm, .int .i64 ma, .int .i64 mi]] w fun e w' => e = .returned (.tuple #[.string h, .int .i64 k]) ∧ Ext w w') (w : World) (hm : HasMax w) :
    Calls Tryz.prog 23 #[.int .i64 d, .agg #[.string ⟨#[]⟩, .string ⟨#[]⟩, .string us, .string gr, .string ⟨#[]⟩, .int .u8 kd, .int .i64 md, .int .i64 ui, .int .i64 gi, .int .i64 sz, .int .i64 tm, .int .i64 ma, .int .i64 mi], .string s, .string lk, .string bs] w
      fun e w' => e = .returned (.tuple #[.string (wrnV k h bs), .int .i64 k]) ∧ Ext w w' := by
  have C1 := Lib.hid c1
  have C3 := Lib.hid (fun w => refFill_any bs (by omega) w)
  have hp := padB_size bs.size
  cases ok with
  | false =>
    obtain rfl := hk2 rfl
    rw [wrnV_bad h bs (by decide)]
    clear c1 c2 hk2 hh C3
    go_enter Tryz.func23, Tryz.ntmps23
    go_wp2_with fail
    refine (C1.out _).mono ?_; rintro e w1 ⟨rfl, hx1⟩
    have hz1 : Ext w w1 := Ext.trans ((Ext.refl w).alloc _) hx1
    have HR := Lib.hid (show w1.heap[w.heap.size]? = some (.cells (rawA ⟨#[]⟩ ⟨#[]⟩ us gr ⟨#[]⟩ kd md ui gi sz tm ma mi) 59 (0, 0)) from (hx1.block _ (by simp)).trans (World.alloc_heap_new w _))
    have HL := Lib.hid (setRow_heap w1 w.heap.size _ (rawA nm ⟨#[]⟩ us gr fr kd md ui gi sz tm ma mi) _ _ HR.out)
    have hzr : Ext w (w1.setRow w.heap.size (rawA nm ⟨#[]⟩ us gr fr kd md ui gi sz tm ma mi)) := below_setRow hz1 (Nat.le_refl _) _
    obtain ⟨hc1, hf1⟩ := rawA_cells HL.out (v := .string ⟨#[]⟩) rfl
    have HL2 := Lib.hid (show ((w1.setRow w.heap.size (rawA nm ⟨#[]⟩ us gr fr kd md ui gi sz tm ma mi)).setCell ⟨w.heap.size, 1, none⟩ (.string lk)).heap[w.heap.size]? = some (.cells (rawA nm lk us gr fr kd md ui gi sz tm ma mi) 59 (0, 0)) from cells_setCell HL.out)
    have hzs : Ext w ((w1.setRow w.heap.size (rawA nm ⟨#[]⟩ us gr fr kd md ui gi sz tm ma mi)).setCell ⟨w.heap.size, 1, none⟩ (.string lk)) := hzr.setCell (Nat.le_refl _) _
    go_wp2_with (first | (refine wpList_store_row rfl 59 (.tmp 6) (.tmp 20) rfl w.heap.size (rawA nm ⟨#[]⟩ us gr fr kd md ui gi sz tm ma mi) rfl rfl 59 _ HR.out infoRawR rfl (rawA_one _ _ _ _ _ _ _ _ _ _ _ _ _) ?_) | (refine wpList_load_row rfl 59 (.tmp 6) rfl w.heap.size rfl 59 (rawA nm lk us gr fr kd md ui gi sz tm ma mi) (0, 0) _ HL2.out Tryz.underlying59 rfl infoRawR ?_))
    go_ret2
    exact ⟨rfl, hzr⟩
  | true =>
    have C2 := Lib.hid (c2 rfl)
    clear c1 c2 hk2
    by_cases hk : k = 0
    · have hz := hh hk
      subst hk
      rw [wrnV_good h bs rfl]
      clear hh
      generalize padB bs.size = p at *
      go_enter Tryz.func23, Tryz.ntmps23
      go_wp2_with fail
      refine (C1.out _).mono ?_; rintro e w1 ⟨rfl, hx1⟩
      have hz1 : Ext w w1 := Ext.trans ((Ext.refl w).alloc _) hx1
      have HR := Lib.hid (show w1.heap[w.heap.size]? = some (.cells (rawA ⟨#[]⟩ ⟨#[]⟩ us gr ⟨#[]⟩ kd md ui gi sz tm ma mi) 59 (0, 0)) from (hx1.block _ (by simp)).trans (World.alloc_heap_new w _))
      have HL := Lib.hid (setRow_heap w1 w.heap.size _ (rawA nm ⟨#[]⟩ us gr fr kd md ui gi sz tm ma mi) _ _ HR.out)
      have hzr : Ext w (w1.setRow w.heap.size (rawA nm ⟨#[]⟩ us gr fr kd md ui gi sz tm ma mi)) := below_setRow hz1 (Nat.le_refl _) _
      obtain ⟨hc1, hf1⟩ := rawA_cells HL.out (v := .string ⟨#[]⟩) rfl
      have HL2 := Lib.hid (show ((w1.setRow w.heap.size (rawA nm ⟨#[]⟩ us gr fr kd md ui gi sz tm ma mi)).setCell ⟨w.heap.size, 1, none⟩ (.string lk)).heap[w.heap.size]? = some (.cells (rawA nm lk us gr fr kd md ui gi sz tm ma mi) 59 (0, 0)) from cells_setCell HL.out)
      have hzs : Ext w ((w1.setRow w.heap.size (rawA nm ⟨#[]⟩ us gr fr kd md ui gi sz tm ma mi)).setCell ⟨w.heap.size, 1, none⟩ (.string lk)) := hzr.setCell (Nat.le_refl _) _
      go_wp2_with (first | (refine wpList_store_row rfl 59 (.tmp 6) (.tmp 20) rfl w.heap.size (rawA nm ⟨#[]⟩ us gr fr kd md ui gi sz tm ma mi) rfl rfl 59 _ HR.out infoRawR rfl (rawA_one _ _ _ _ _ _ _ _ _ _ _ _ _) ?_) | (refine wpList_load_row rfl 59 (.tmp 6) rfl w.heap.size rfl 59 (rawA nm lk us gr fr kd md ui gi sz tm ma mi) (0, 0) _ HL2.out Tryz.underlying59 rfl infoRawR ?_))
      refine (C2.out _ (hm.ext hzs)).mono ?_; rintro e w2 ⟨rfl, hx2⟩
      go_wp2_with fail
      refine (C3.out _).mono ?_; rintro e w3 ⟨rfl, hx3⟩
      go_wp2_with fail
      go_ret2
      exact ⟨rfl, (hzs.trans hx2).trans hx3⟩
    · rw [wrnV_bad h bs hk]
      have hk' : (k == 0) = false := by simpa using hk
      clear hh C3 hk
      go_enter Tryz.func23, Tryz.ntmps23
      go_wp2_with fail
      refine (C1.out _).mono ?_; rintro e w1 ⟨rfl, hx1⟩
      have hz1 : Ext w w1 := Ext.trans ((Ext.refl w).alloc _) hx1
      have HR := Lib.hid (show w1.heap[w.heap.size]? = some (.cells (rawA ⟨#[]⟩ ⟨#[]⟩ us gr ⟨#[]⟩ kd md ui gi sz tm ma mi) 59 (0, 0)) from (hx1.block _ (by simp)).trans (World.alloc_heap_new w _))
      have HL := Lib.hid (setRow_heap w1 w.heap.size _ (rawA nm ⟨#[]⟩ us gr fr kd md ui gi sz tm ma mi) _ _ HR.out)
      have hzr : Ext w (w1.setRow w.heap.size (rawA nm ⟨#[]⟩ us gr fr kd md ui gi sz tm ma mi)) := below_setRow hz1 (Nat.le_refl _) _
      obtain ⟨hc1, hf1⟩ := rawA_cells HL.out (v := .string ⟨#[]⟩) rfl
      have HL2 := Lib.hid (show ((w1.setRow w.heap.size (rawA nm ⟨#[]⟩ us gr fr kd md ui gi sz tm ma mi)).setCell ⟨w.heap.size, 1, none⟩ (.string lk)).heap[w.heap.size]? = some (.cells (rawA nm lk us gr fr kd md ui gi sz tm ma mi) 59 (0, 0)) from cells_setCell HL.out)
      have hzs : Ext w ((w1.setRow w.heap.size (rawA nm ⟨#[]⟩ us gr fr kd md ui gi sz tm ma mi)).setCell ⟨w.heap.size, 1, none⟩ (.string lk)) := hzr.setCell (Nat.le_refl _) _
      go_wp2_with (first | (refine wpList_store_row rfl 59 (.tmp 6) (.tmp 20) rfl w.heap.size (rawA nm ⟨#[]⟩ us gr fr kd md ui gi sz tm ma mi) rfl rfl 59 _ HR.out infoRawR rfl (rawA_one _ _ _ _ _ _ _ _ _ _ _ _ _) ?_) | (refine wpList_load_row rfl 59 (.tmp 6) rfl w.heap.size rfl 59 (rawA nm lk us gr fr kd md ui gi sz tm ma mi) (0, 0) _ HL2.out Tryz.underlying59 rfl infoRawR ?_))
      refine (C2.out _ (hm.ext hzs)).mono ?_; rintro e w2 ⟨rfl, hx2⟩
      go_wp2_with fail
      go_ret2
      exact ⟨rfl, hzs.trans hx2⟩

/-- What both give: the error k, and, if it is 0, the header h. -/
def Wrn (d : Int) (us gr : ByteArray) (kd md ui gi sz tm ma mi : Int) (s lk h : ByteArray) (k : Int) : Prop := (k = 0 → h.size = 512) ∧ ∀ bs : ByteArray, bs.size ≤ 90000 →
  (∀ w, HasMax w → Calls Tryz.prog 45 #[.int .i64 d, .agg #[.string ⟨#[]⟩, .string ⟨#[]⟩, .string us, .string gr, .string ⟨#[]⟩, .int .u8 kd, .int .i64 md, .int .i64 ui, .int .i64 gi, .int .i64 sz, .int .i64 tm, .int .i64 ma, .int .i64 mi], .string s, .string lk, .string bs] w fun e w' => e = .returned (.tuple #[.string (wrnV k h bs), errOf k]) ∧ Ext w w') ∧
  (∀ w, HasMax w → Calls Tryz.prog 23 #[.int .i64 d, .agg #[.string ⟨#[]⟩, .string ⟨#[]⟩, .string us, .string gr, .string ⟨#[]⟩, .int .u8 kd, .int .i64 md, .int .i64 ui, .int .i64 gi, .int .i64 sz, .int .i64 tm, .int .i64 ma, .int .i64 mi], .string s, .string lk, .string bs] w fun e w' => e = .returned (.tuple #[.string (wrnV k h bs), .int .i64 k]) ∧ Ext w w')

/-- The name's parts. -/
theorem named_ways (d : Int) (s : ByteArray) (hs : s.size ≤ 1000) : ∃ (nm fr : ByteArray) (ok : Bool), nm.size ≤ 1000 ∧ fr.size ≤ 1000 ∧ (d = 3 → nm = s ∧ fr = ⟨#[]⟩ ∧ ok = decide (s.size ≤ 100)) ∧
    ∀ (lk us gr : ByteArray) (kd md ui gi sz tm ma mi : Int), (∀ w, Calls Tryz.prog 59 #[.agg #[.string ⟨#[]⟩, .string lk, .string us, .string gr, .string ⟨#[]⟩, .int .u8 kd, .int .i64 md, .int .i64 ui, .int .i64 gi, .int .i64 sz, .int .i64 tm, .int .i64 ma, .int .i64 mi], .int .i64 d, .string s] w fun e w' => e = .returned (.tuple #[.agg #[.string nm, .string lk, .string us, .string gr, .string fr, .int .u8 kd, .int .i64 md, .int .i64 ui, .int .i64 gi, .int .i64 sz, .int .i64 tm, .int .i64 ma, .int .i64 mi], .bool ok]) ∧ Ext w w') ∧
    (∀ w, Calls Tryz.prog 48 #[.agg #[.string ⟨#[]⟩, .string lk, .string us, .string gr, .string ⟨#[]⟩, .int .u8 kd, .int .i64 md, .int .i64 ui, .int .i64 gi, .int .i64 sz, .int .i64 tm, .int .i64 ma, .int .i64 mi], .int .i64 d, .string s] w fun e w' => e = .returned (.tuple #[.agg #[.string nm, .string lk, .string us, .string gr, .string fr, .int .u8 kd, .int .i64 md, .int .i64 ui, .int .i64 gi, .int .i64 sz, .int .i64 tm, .int .i64 ma, .int .i64 mi], .bool ok]) ∧ Ext w w') := by
  obtain ⟨a, b, c, hv, ha, hb⟩ := splitV_parts s
  by_cases hd : d = 2 ∨ d = 4
  · refine ⟨b, a, c, by omega, by omega, fun h => by omega, fun lk us gr kd md ui gi sz tm ma mi => ⟨fun w => ?_, fun w => ?_⟩⟩
    · have := named_any ⟨#[]⟩ lk us gr ⟨#[]⟩ kd md ui gi sz tm ma mi w d s a b c (by omega) hv
      rw [if_pos hd] at this
      exact this
    · have := refNamed_any ⟨#[]⟩ lk us gr ⟨#[]⟩ kd md ui gi sz tm ma mi w d s a b c (by omega) hv
      rw [if_pos hd] at this
      exact this
  · refine ⟨s, ⟨#[]⟩, decide (s.size ≤ 100), hs, Nat.zero_le _, fun _ => ⟨rfl, rfl, rfl⟩, fun lk us gr kd md ui gi sz tm ma mi => ⟨fun w => ?_, fun w => ?_⟩⟩
    · have := named_any ⟨#[]⟩ lk us gr ⟨#[]⟩ kd md ui gi sz tm ma mi w d s a b c (by omega) hv
      rw [if_neg hd] at this
      exact this
    · have := refNamed_any ⟨#[]⟩ lk us gr ⟨#[]⟩ kd md ui gi sz tm ma mi w d s a b c (by omega) hv
      rw [if_neg hd] at this
      exact this

theorem wrn_ways (d : Int) (us gr : ByteArray) (kd md ui gi sz tm ma mi : Int) (s lk : ByteArray) (hs : s.size ≤ 1000) (hlk : lk.size ≤ 1000) (hus : us.size ≤ 1000) (hgr : gr.size ≤ 1000) (hk0 : 0 ≤ kd) (hk1 : kd < 256)
    (lmd : -9223372036854775808 ≤ md) (umd : md ≤ 9223372036854775807) (lui : -9223372036854775808 ≤ ui) (uui : ui ≤ 9223372036854775807) (lgi : -9223372036854775808 ≤ gi) (ugi : gi ≤ 9223372036854775807) (lsz : -9223372036854775808 ≤ sz) (usz : sz ≤ 9223372036854775807)
    (ltm : -9223372036854775808 ≤ tm) (utm : tm ≤ 9223372036854775807) (lma : -9223372036854775808 ≤ ma) (uma : ma ≤ 9223372036854775807) (lmi : -9223372036854775808 ≤ mi) (umi : mi ≤ 9223372036854775807) :
    ∃ (h : ByteArray) (k : Int), Wrn d us gr kd md ui gi sz tm ma mi s lk h k := by
  obtain ⟨nm, fr, ok, hnm, hfr, _, hN⟩ := named_ways d s hs
  cases ok with
  | false =>
    exact ⟨⟨#[]⟩, 2, fun h => absurd h (by decide), fun bs hbs => ⟨fun w hm => written_of d us gr kd md ui gi sz tm ma mi s lk bs nm fr ⟨#[]⟩ false 2 (fun _ => rfl) (fun h => absurd h (by decide)) hbs (hN lk us gr kd md ui gi sz tm ma mi).1 (fun h => absurd h (by decide)) w hm,
      fun w hm => whole_of d us gr kd md ui gi sz tm ma mi s lk bs nm fr ⟨#[]⟩ false 2 (fun _ => rfl) (fun h => absurd h (by decide)) hbs (hN ⟨#[]⟩ us gr kd md ui gi sz tm ma mi).2 (fun h => absurd h (by decide)) w hm⟩⟩
  | true =>
    obtain ⟨h, k, hh, a, r⟩ := head_wayz nm lk us gr fr kd md ui gi sz tm ma mi d hnm hlk hus hgr hfr hk0 hk1 lmd umd lui uui lgi ugi lsz usz ltm utm lma uma lmi umi
    exact ⟨h, k, hh, fun bs hbs => ⟨fun w hm => written_of d us gr kd md ui gi sz tm ma mi s lk bs nm fr h true k (fun h => absurd h (by decide)) hh hbs (hN lk us gr kd md ui gi sz tm ma mi).1 (fun _ => a) w hm,
      fun w hm => whole_of d us gr kd md ui gi sz tm ma mi s lk bs nm fr h true k (fun h => absurd h (by decide)) hh hbs (hN ⟨#[]⟩ us gr kd md ui gi sz tm ma mi).2 (fun _ => r) w hm⟩⟩

/-- The header of a long name, or of a long link, of Gnu. -/
theorem wrn_long (kd sz : Int) (s : ByteArray) (hs : s.size ≤ 100) (hz : fitS s 100 = true) (hk0 : 0 < kd) (hk1 : kd < 256) (h0 : 0 ≤ sz) (h1 : octE sz 12 = 0) (hsz : sz ≤ 9223372036854775807) :
    ∃ h : ByteArray, Wrn 3 ⟨#[]⟩ ⟨#[]⟩ kd 0 0 0 sz 0 0 0 s ⟨#[]⟩ h 0 := by
  obtain ⟨nm, fr, ok, hnm, hfr, h3, hN⟩ := named_ways 3 s (by omega)
  obtain ⟨rfl, rfl, rfl⟩ := h3 rfl
  rw [decide_eq_true hs] at hN
  have e0 : fitS ⟨#[]⟩ 100 = true := by decide +kernel
  have e1 : fitS ⟨#[]⟩ 32 = true := by decide +kernel
  have e2 : octE 0 8 = 0 := by decide +kernel
  have e3 : octE 0 12 = 0 := by decide +kernel
  obtain ⟨h, hh, a, r⟩ := good_gnu nm ⟨#[]⟩ ⟨#[]⟩ ⟨#[]⟩ kd 0 0 0 sz 0 0 0 hnm (by decide) (by decide) (by decide) hk0 hk1 (by decide) (by decide) (by decide) (by decide) (by decide) (by decide) (by omega) hsz (by decide) (by decide) (by decide) (by decide) (by decide) (by decide) hz e0 e1 e1 e2 e2 e2 h1 e3 e2 e2
  exact ⟨h, fun _ => hh, fun bs hbs => ⟨fun w hm => written_of 3 ⟨#[]⟩ ⟨#[]⟩ kd 0 0 0 sz 0 0 0 nm ⟨#[]⟩ bs nm ⟨#[]⟩ h true 0 (fun h => absurd h (by decide)) (fun _ => hh) hbs (hN ⟨#[]⟩ ⟨#[]⟩ ⟨#[]⟩ kd 0 0 0 sz 0 0 0).1 (fun _ => a) w hm,
    fun w hm => whole_of 3 ⟨#[]⟩ ⟨#[]⟩ kd 0 0 0 sz 0 0 0 nm ⟨#[]⟩ bs nm ⟨#[]⟩ h true 0 (fun h => absurd h (by decide)) (fun _ => hh) hbs (hN ⟨#[]⟩ ⟨#[]⟩ ⟨#[]⟩ kd 0 0 0 sz 0 0 0).2 (fun _ => r) w hm⟩⟩
end Go.Proofs.YtnbcbipigiopbaaGreatDoor
