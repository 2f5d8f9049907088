/-
  head.Write's callees: fits, texts, numbers.
-/
import Derived.Test.YtnbcbipigiopbaaGreatDoorPkA
import Derived.Test.YtnbcbipigiopbaaGreatDoorFits
import Derived.BigRegion
import Derived.Test.YtnbcbipigiopbaaGreatDoorShelf
import Derived.Deep.Slices
namespace Go.Proofs.YtnbcbipigiopbaaGreatDoor
open Go.RowKit Go.WideShapes

/-- Has the dialect all fields that are set? -/
def fitsV (f : Int) (us gr fr : ByteArray) (ma mi : Int) : Bool :=
  if f = 1 then (us.toList == (⟨#[]⟩ : ByteArray).toList) && (gr.toList == (⟨#[]⟩ : ByteArray).toList) && (fr.toList == (⟨#[]⟩ : ByteArray).toList) && (ma == 0) && (mi == 0)
  else if f = 3 then fr.toList.isEmpty else true
theorem eqlRaw (us gr fr : ByteArray) (ma mi : Int) (w : World) : (Op.equalIn 10000 76 (.agg #[.string ⟨#[]⟩, .string ⟨#[]⟩, .string us, .string gr, .string fr, .int .u8 0, .int .i64 0, .int .i64 0, .int .i64 0, .int .i64 0, .int .i64 0, .int .i64 ma, .int .i64 mi])
      (.agg #[.string ⟨#[]⟩, .string ⟨#[]⟩, .string ⟨#[]⟩, .string ⟨#[]⟩, .string ⟨#[]⟩, .int .u8 0, .int .i64 0, .int .i64 0, .int .i64 0, .int .i64 0, .int .i64 0, .int .i64 0, .int .i64 0])).run Tryz.prog w
      = .ok ((us.toList == (⟨#[]⟩ : ByteArray).toList) && (gr.toList == (⟨#[]⟩ : ByteArray).toList) && (fr.toList == (⟨#[]⟩ : ByteArray).toList) && (ma == 0) && (mi == 0)) w :=
  eql13d 9999 us gr fr ma mi w
    (fun x y => by rw [show (9999 : Nat) = 9998 + 1 from rfl, run_equalIn_string w 9998 _ _ _ Tryz.underlying9])
    (fun x y => by rw [show (9999 : Nat) = 9998 + 1 from rfl, run_equalIn_int w 9998 _ .i64 .i64 _ _ Tryz.underlying3])
    (fun x y => by rw [show (9999 : Nat) = 9998 + 1 from rfl, run_equalIn_int w 9998 _ .u8 .u8 _ _ Tryz.underlying5])

set_option maxHeartbeats 1600000 in
set_option maxRecDepth 100000 in
theorem fits_any (nm lk us gr fr : ByteArray) (kd md ui gi sz tm ma mi f : Int) (w : World) : Calls Tryz.prog 114 #[.agg #[.string nm, .string lk, .string us, .string gr, .string fr, .int .u8 kd, .int .i64 md, .int .i64 ui, .int .i64 gi, .int .i64 sz, .int .i64 tm, .int .i64 ma, .int .i64 mi], .int .i64 f] w fun e w' => e = .returned (.bool (fitsV f us gr fr ma mi)) ∧ Ext w w' := by
  have Q : ∀ W, _ := eqlRaw us gr fr ma mi
  by_cases h : f = 1
  · subst h
    have hv : Hid (fitsV 1 us gr fr ma mi = ((us.toList == (⟨#[]⟩ : ByteArray).toList) && (gr.toList == (⟨#[]⟩ : ByteArray).toList) && (fr.toList == (⟨#[]⟩ : ByteArray).toList) && (ma == 0) && (mi == 0))) := Lib.hid rfl
    rw [hv.out]
    generalize ((us.toList == (⟨#[]⟩ : ByteArray).toList) && (gr.toList == (⟨#[]⟩ : ByteArray).toList) && (fr.toList == (⟨#[]⟩ : ByteArray).toList) && (ma == 0) && (mi == 0)) = b at *
    go_enter Tryz.func114, Tryz.ntmps114
    go_wp2_with fail
    go_ret
    exact ⟨rfl, (by show Below _ _ _; repeat' (first | (with_reducible exact Below.refl _ _) | (with_reducible assumption) | (with_reducible refine belowDrewN ?_ _) | (with_reducible refine Below.alloc ?_ ?_ _) | (with_reducible refine Below.drew ?_) | (with_reducible refine Below.setCell ?_ ?_ _) | go_size))⟩
  · have q1 : (f == 1) = false := by simpa using h
    by_cases h3 : f = 3
    · subst h3
      have hv : Hid (fitsV 3 us gr fr ma mi = fr.toList.isEmpty) := Lib.hid rfl
      rw [hv.out]
      go_enter Tryz.func114, Tryz.ntmps114
      go_wp2_with fail
      go_ret
      exact ⟨ret_bool (by simp), (by show Below _ _ _; repeat' (first | (with_reducible exact Below.refl _ _) | (with_reducible assumption) | (with_reducible refine belowDrewN ?_ _) | (with_reducible refine Below.alloc ?_ ?_ _) | (with_reducible refine Below.drew ?_) | (with_reducible refine Below.setCell ?_ ?_ _) | go_size))⟩
    · have q3 : (f == 3) = false := by simpa using h3
      have hv : Hid (fitsV f us gr fr ma mi = true) := Lib.hid (by unfold fitsV; rw [if_neg h, if_neg h3])
      rw [hv.out]
      clear h h3
      go_enter Tryz.func114, Tryz.ntmps114
      go_wp2_with fail
      go_ret
      exact ⟨rfl, (by show Below _ _ _; repeat' (first | (with_reducible exact Below.refl _ _) | (with_reducible assumption) | (with_reducible refine belowDrewN ?_ _) | (with_reducible refine Below.alloc ?_ ?_ _) | (with_reducible refine Below.drew ?_) | (with_reducible refine Below.setCell ?_ ?_ _) | go_size))⟩

def textsV (r : Nat) : Value := .agg #[.pointer (some ⟨r, 0, none⟩), .pointer (some ⟨r, 1, none⟩), .pointer (some ⟨r, 2, none⟩), .pointer (some ⟨r, 3, none⟩), .pointer (some ⟨r, 4, none⟩)]
def numbersV (r : Nat) : Value := .agg #[.pointer (some ⟨r, 6, none⟩), .pointer (some ⟨r, 7, none⟩), .pointer (some ⟨r, 8, none⟩), .pointer (some ⟨r, 9, none⟩), .pointer (some ⟨r, 10, none⟩), .pointer (some ⟨r, 11, none⟩), .pointer (some ⟨r, 12, none⟩)]
set_option maxHeartbeats 1600000 in
set_option maxRecDepth 100000 in
theorem texts_any (r : Nat) (w : World) : Calls Tryz.prog 115 #[.pointer (some ⟨r, 0, none⟩)] w fun e w' => e = .returned (textsV r) ∧ Ext w w' := by
  go_enter Tryz.func115, Tryz.ntmps115
  go_wp2_with fail
  go_region
  all_goals
    go_wp2_with fail
    refine bodyPost_ret (v := textsV r) ?_ rfl ⟨rfl, (by show Below _ _ _; repeat' (first | (with_reducible exact Below.refl _ _) | (with_reducible assumption) | (with_reducible refine belowDrewN ?_ _) | (with_reducible refine Below.alloc ?_ ?_ _) | (with_reducible refine Below.drew ?_) | (with_reducible refine Below.setCell ?_ ?_ _) | go_size))⟩
    simp [results, Tryz.results115, go_sem, textsV]
set_option maxHeartbeats 4000000 in
set_option maxRecDepth 100000 in
theorem numbers_any (r : Nat) (w : World) : Calls Tryz.prog 117 #[.pointer (some ⟨r, 0, none⟩)] w fun e w' => e = .returned (numbersV r) ∧ Ext w w' := by
  go_enter Tryz.func117, Tryz.ntmps117
  go_wp2_with fail
  go_region
  all_goals
    go_wp2_with fail
    refine bodyPost_ret (v := numbersV r) ?_ rfl ⟨rfl, (by show Below _ _ _; repeat' (first | (with_reducible exact Below.refl _ _) | (with_reducible assumption) | (with_reducible refine belowDrewN ?_ _) | (with_reducible refine Below.alloc ?_ ?_ _) | (with_reducible refine Below.drew ?_) | (with_reducible refine Below.setCell ?_ ?_ _) | go_size))⟩
    simp [results, Tryz.results117, go_sem, numbersV]
end Go.Proofs.YtnbcbipigiopbaaGreatDoor
/-
  head.Write's small callees: many, the spots, the reference's magic.
-/
namespace Go.Proofs.YtnbcbipigiopbaaGreatDoor
open Go.RowKit Go.WideShapes

set_option maxRecDepth 100000 in
theorem many_any (f : Int) (w : World) : Calls Tryz.prog 118 #[.int .i64 f] w fun e w' => e = .returned (.int .i64 (if f = 1 then 5 else 7)) ∧ Ext w w' := by
  by_cases h : f = 1
  · subst h
    go_enter Tryz.func118, Tryz.ntmps118
    go_wp2_with fail
    go_ret
    exact ⟨ret_val (by simp), (by show Below _ _ _; repeat' (first | (with_reducible exact Below.refl _ _) | (with_reducible assumption) | (with_reducible refine belowDrewN ?_ _) | (with_reducible refine Below.alloc ?_ ?_ _) | (with_reducible refine Below.drew ?_) | (with_reducible refine Below.setCell ?_ ?_ _) | go_size))⟩
  · have hq : decide (f = 1) = false := decide_eq_false h
    go_enter Tryz.func118, Tryz.ntmps118
    go_wp2_with fail
    go_ret
    exact ⟨ret_val (by simp), (by show Below _ _ _; repeat' (first | (with_reducible exact Below.refl _ _) | (with_reducible assumption) | (with_reducible refine belowDrewN ?_ _) | (with_reducible refine Below.alloc ?_ ?_ _) | (with_reducible refine Below.drew ?_) | (with_reducible refine Below.setCell ?_ ?_ _) | go_size))⟩

def textSpotsV : Value := .agg #[.int .i64 0, .int .i64 100, .int .i64 157, .int .i64 100, .int .i64 265, .int .i64 32, .int .i64 297, .int .i64 32, .int .i64 345, .int .i64 155]
set_option maxHeartbeats 1600000 in
set_option maxRecDepth 100000 in
theorem textSpots_any (w : World) : Calls Tryz.prog 116 #[] w fun e w' => e = .returned textSpotsV ∧ Ext w w' := by
  go_enter Tryz.func116, Tryz.ntmps116
  go_wp2_with fail
  refine bodyPost_ret (v := textSpotsV) ?_ rfl ⟨rfl, (Ext.refl w).alloc _⟩
  simp [results, Tryz.results116, go_sem, textSpotsV]

def numberSpotsV : Value := .agg #[.int .i64 100, .int .i64 8, .int .i64 108, .int .i64 8, .int .i64 116, .int .i64 8, .int .i64 124, .int .i64 12, .int .i64 136, .int .i64 12, .int .i64 329, .int .i64 8, .int .i64 337, .int .i64 8]
set_option maxHeartbeats 1600000 in
set_option maxRecDepth 100000 in
theorem numberSpots_any (w : World) : Calls Tryz.prog 119 #[] w fun e w' => e = .returned numberSpotsV ∧ Ext w w' := by
  go_enter Tryz.func119, Tryz.ntmps119
  go_wp2_with fail
  refine bodyPost_ret (v := numberSpotsV) ?_ rfl ⟨rfl, (Ext.refl w).alloc _⟩
  simp [results, Tryz.results119, go_sem, numberSpotsV]

/-- The magic of a form: eight bytes. -/
def magicV (f : Int) : ByteArray := if f = 1 then ⟨(List.replicate 8 (0 : UInt8)).toArray⟩ else if f = 3 then ⟨#[117, 115, 116, 97, 114, 32, 32, 0]⟩ else ⟨#[117, 115, 116, 97, 114, 0, 48, 48]⟩
theorem rep8 (w : World) : Calls Tryz.prog 24 #[.string ⟨#[0]⟩, .int .i64 8] w fun e w' => e = .returned (.string ⟨(List.replicate 8 (0 : UInt8)).toArray⟩) ∧ Ext w w' :=
  (Tryz.strings_Repeat ⟨#[0]⟩ 8 w (by omega) (by show 1 * _ ≤ _; omega)).mono fun e w' h => h

set_option maxRecDepth 100000 in
theorem magic_any (f : Int) (h1 : 1 ≤ f) (h4 : f ≤ 4) (w : World) : Calls Tryz.prog 63 #[.int .i64 f] w fun e w' => e = .returned (.string (magicV f)) ∧ Ext w w' := by
  have C1 := Lib.hid (rep8 w)
  obtain ⟨m, hm⟩ : ∃ m, m = magicV f := ⟨_, rfl⟩
  have Hm := Lib.hid hm
  rw [← hm]
  clear hm
  have e : f = 1 ∨ f = 2 ∨ f = 3 ∨ f = 4 := by omega
  generalize hR : (⟨(List.replicate 8 (0 : UInt8)).toArray⟩ : ByteArray) = R at *
  have HR := Lib.hid hR
  clear hR
  rcases e with rfl | rfl | rfl | rfl
  all_goals
    go_enter Tryz.func63, Tryz.ntmps63
    go_wp2_with fail
    refine C1.out.mono ?_; rintro e w1 ⟨rfl, hx1⟩
    go_wp2_with fail
    go_ret
    exact ⟨ret_val (by first | (rw [Hm.out, ← HR.out]; rfl) | (rw [Hm.out]; rfl)), hx1.trans (by show Below _ _ _; repeat' (first | (with_reducible exact Below.refl _ _) | (with_reducible assumption) | (with_reducible refine belowDrewN ?_ _) | (with_reducible refine Below.alloc ?_ ?_ _) | (with_reducible refine Below.drew ?_) | (with_reducible refine Below.setCell ?_ ?_ _) | go_size))⟩
end Go.Proofs.YtnbcbipigiopbaaGreatDoor
/-
  What a readable argument is, opened level by level: a string, a number, a struct's fields, a slice's elements. No conditions.
-/
namespace Go.Proofs.YtnbcbipigiopbaaGreatDoor
open Go.ChangeShapes Go.WideShapes Go.ChangeAt Go.RowKit Go.Deep

/-- The cells cs, at type t, read in W as a datum within the form's reach. -/
def Rd (W : World) (t : TypeId) (cs : List Value) : Prop :=
  ∃ (H : Type) (enc : TypeId × Value → H) (fuel : Nat) (d : DataW H) (ps : List MemPlace),
    DataW.trod enc Tryz.prog W 0 (fun _ => true) true fuel t cs = some (d, ps) ∧ ∀ n ∈ d.weights Tryz.prog t, n ≤ reachBytes

section
variable {W : World} {t : TypeId} {cs : List Value}

theorem Rd.ofArg {H : Type} {enc : TypeId × Value → H} {ts : List TypeId} {ds : List (DataW H)} {j : Nat} {v : Value} {d : DataW H} {p : List MemPlace}
    (h : DataW.Trod enc Tryz.prog W 0 (fun _ => true) true t v d p) (hsz : (DataW.weightsEach Tryz.prog ts ds).all (· ≤ reachBytes) = true) (ht : ts[j]? = some t) (hd : ds[j]? = some d) :
    Rd W t v.cells.toList := by
  obtain ⟨fuel, hf⟩ := h
  exact ⟨H, enc, fuel, d, p, hf, fun n hn => by simpa using List.all_eq_true.1 hsz n (DataW.weights_mem_each ht hd n hn)⟩

theorem Rd.int {k : IntKind} (hu : Tryz.prog.underlying t = some (.int k)) (h : Rd W t cs) : ∃ n, cs = [.int k n] ∧ (Lit.int k n).wf = true := by
  obtain ⟨H, enc, fuel, d, ps, hf, _⟩ := h
  obtain ⟨n, e, _, wn⟩ := DataW.trod_int hu hf
  exact ⟨n, e, wn⟩

theorem Rd.string (hu : Tryz.prog.underlying t = some .string) (h : Rd W t cs) : ∃ s : ByteArray, cs = [.string s] ∧ s.size ≤ 140737488351232 := by
  obtain ⟨H, enc, fuel, d, ps, hf, hn⟩ := h
  obtain ⟨s, e, hx, _⟩ := DataW.trod_string hu hf
  simp only [Prod.mk.injEq] at hx
  obtain ⟨rfl, _⟩ := hx
  have := hn s.data.toList.length (by simp [DataW.weights])
  simp [reachBytes] at this
  exact ⟨s, e, this⟩

theorem Rd.struct {fs : Array Field} (hu : Tryz.prog.underlying t = some (.struct fs)) (h : Rd W t cs) :
    cs.length = Tryz.prog.cellsOf t ∧ ∀ (i : Nat) (f : Field), fs[i]? = some f → Rd W f.type ((cs.drop f.offset).take (Tryz.prog.cellsOf f.type)) := by
  obtain ⟨H, enc, fuel, d, ps, hf, hn⟩ := h
  obtain ⟨xs, n, _, hx, hlen, hxl, hg⟩ := DataW.trod_struct hu hf
  simp only [Prod.mk.injEq] at hx
  obtain ⟨rfl, _⟩ := hx
  refine ⟨hlen, fun i f hi => ?_⟩
  have hi' : i < fs.size := (Array.getElem?_eq_some_iff.1 hi).1
  have hxi : xs[i]? = some (xs[i]'(by omega)) := List.getElem?_eq_getElem (by omega)
  refine ⟨H, enc, n, (xs[i]'(by omega)).1, (xs[i]'(by omega)).2, (hg i f hi).trans hxi, fun m hm => hn m ?_⟩
  simp only [DataW.weights, hu]
  refine DataW.weights_mem_each (j := i) (t := f.type) (d := (xs[i]'(by omega)).1) ?_ ?_ m hm
  · simp [hi]
  · simp [hxi]

theorem weightsAll_mem {H : Type} {e : TypeId} : ∀ {ds : List (DataW H)} {i : Nat} {d : DataW H}, ds[i]? = some d → ∀ n ∈ d.weights Tryz.prog e, n ∈ DataW.weightsAll Tryz.prog e ds
  | [], _, _, h, _, _ => by simp at h
  | x :: r, 0, d, h, n, hn => by
    simp at h
    subst h
    simp [DataW.weightsAll, hn]
  | x :: r, i + 1, d, h, n, hn => by
    simp only [List.getElem?_cons_succ] at h
    simp only [DataW.weightsAll, List.mem_append]
    exact .inr (weightsAll_mem h n hn)

theorem Rd.slice {e : TypeId} (hu : Tryz.prog.underlying t = some (.slice e)) (h : Rd W t cs) :
    cs = [.slice none 0 0] ∨ ∃ (a : Addr) (len cap : Nat), cs = [.slice (some a) len cap] ∧ len ≤ cap ∧ cap ≤ maxLen ∧ len * Tryz.prog.bytesOf e ≤ 140737488351232 ∧
      ∀ i, i < len → ∃ ecs : List Value, ecs.length = Tryz.prog.cellsOf e ∧ (∀ j, j < Tryz.prog.cellsOf e → W.cell? (a.add (i * Tryz.prog.cellsOf e + j)) = ecs[j]?) ∧ Rd W e ecs := by
  obtain ⟨H, enc, fuel, d, ps, hf, hn⟩ := h
  rcases open_slice hu hf with ⟨h0, _⟩ | ⟨a, len, cap, m, n, D, Pl, hcs, _, hl, hm, hmm, hx, hi⟩
  · exact .inl h0
  · simp only [Prod.mk.injEq] at hx
    obtain ⟨rfl, _⟩ := hx
    simp only [if_true] at hmm
    obtain rfl : m = cap := hmm
    have hw := hn _ (by simp only [DataW.weights, hu]; exact List.mem_cons_self)
    simp only [List.length_map, List.length_range, reachBytes] at hw
    refine .inr ⟨a, len, m, hcs, hl, hm, ?_, fun i hil => ?_⟩
    · exact Nat.le_trans (Nat.mul_le_mul_right _ (by omega)) hw
    · obtain ⟨ecs, hc, ht⟩ := hi i (by omega)
      obtain ⟨_, hcl, hat⟩ := World.cells?_some hc
      refine ⟨ecs, hcl, fun j hj => by rw [← hat j hj, Go.Deep.add_add], H, enc, n, D i, Pl i, ht, fun k hk => hn k ?_⟩
      simp only [DataW.weights, hu, List.mem_cons, List.mem_append]
      refine .inr (.inl (weightsAll_mem (i := i) ?_ k hk))
      simp [hil]
end
end Go.Proofs.YtnbcbipigiopbaaGreatDoor
