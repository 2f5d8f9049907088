/-
  Members: how they lie in memory; large, lots.
-/
import Derived.Test.YtbofobakphlpbaaDoorNum
import Derived.Test.YtbofobakphlpbaaDoorRead
namespace Go.Proofs.YtbofobakphlpbaaDoor
open Go.RowKit Go.WideShapes

/-- A member's fields; its pieces: the slice's address, length, capacity. -/
structure Ent where
  nm : ByteArray
  kd : Int
  md : Int
  ui : Int
  gi : Int
  sz : Int
  ts : Int
  tn : Int
  lk : ByteArray
  us : ByteArray
  gr : ByteArray
  ma : Int
  mi : Int
  dt : ByteArray
  pa : Option Addr
  pn : Nat
  pc : Nat

/-- Its texts are within the reach, its numbers fit their kinds. -/
structure Ent.Ok (e : Ent) : Prop where
  nm : e.nm.size ≤ 140737488351232
  lk : e.lk.size ≤ 140737488351232
  us : e.us.size ≤ 140737488351232
  gr : e.gr.size ≤ 140737488351232
  dt : e.dt.size ≤ 140737488351232
  pn : e.pn ≤ 8796093022200
  kd0 : 0 ≤ e.kd
  kd1 : e.kd ≤ 255

def Ent.cells (e : Ent) : List Value := [.string e.nm, .int .u8 e.kd, .int .i64 e.md, .int .i64 e.ui, .int .i64 e.gi, .int .i64 e.sz, .int .i64 e.ts, .int .i64 e.tn, .string e.lk, .string e.us, .string e.gr, .int .i64 e.ma, .int .i64 e.mi, .string e.dt, .slice e.pa e.pn e.pc]

/-- The slice value v holds n members. -/
def IsEnts (w : World) (v : Value) (n : Nat) (E : Nat → Ent) : Prop :=
  ((∃ a c, v = .slice a 0 c) ∧ n = 0) ∨ ∃ (b off cap : Nat), v = .slice (some ⟨b, off, none⟩) n cap ∧ n ≤ 8796093022200 ∧
    ∀ k, k < n → (E k).Ok ∧ ∀ j, j < 15 → w.cell? ⟨b, off + k * 15 + j, none⟩ = (E k).cells[j]?

theorem IsEnts.ext {w w' : World} {v : Value} {n : Nat} {E : Nat → Ent} (h : IsEnts w v n E) (hE : Ext w w') : IsEnts w' v n E :=
  h.imp id fun ⟨b, off, cap, hv, hn, hc⟩ => ⟨b, off, cap, hv, hn, fun k hk => ⟨(hc k hk).1, fun j hj => by
    have h1 := (hc k hk).2 j hj
    have h2 : (E k).cells[j]? = some ((E k).cells[j]'(by simpa [Ent.cells] using hj)) := List.getElem?_eq_getElem _
    rw [h2] at h1
    rw [hE.cell h1, h2]⟩⟩

def largeB (e : Ent) : Bool := decide (700 < (e.nm.size : Int) + e.lk.size + e.us.size + e.gr.size) || decide (900 < (e.dt.size : Int)) && decide ((e.dt.size : Int) < 3991) || decide (4009 < (e.dt.size : Int)) || decide (30 < (e.pn : Int))

set_option maxRecDepth 100000 in
theorem large_any (e : Ent) (ok : e.Ok) (w : World) : Calls Tryd.prog 12 #[.agg #[.string e.nm, .int .u8 e.kd, .int .i64 e.md, .int .i64 e.ui, .int .i64 e.gi, .int .i64 e.sz, .int .i64 e.ts, .int .i64 e.tn, .string e.lk, .string e.us, .string e.gr, .int .i64 e.ma, .int .i64 e.mi, .string e.dt, .slice e.pa e.pn e.pc]] w fun x w' => x = .returned (.bool (largeB e)) ∧ Ext w w' := by
  have h1 := ok.nm
  have h2 := ok.lk
  have h3 := ok.us
  have h4 := ok.gr
  have h5 := ok.dt
  have h6 := ok.pn
  have hd : Hid (largeB e = (decide (700 < (e.nm.size : Int) + e.lk.size + e.us.size + e.gr.size) || decide (900 < (e.dt.size : Int)) && decide ((e.dt.size : Int) < 3991) || decide (4009 < (e.dt.size : Int)) || decide (30 < (e.pn : Int)))) := Lib.hid rfl
  go_enter Tryd.func12, Tryd.ntmps12
  go_wp2_with fail
  all_goals first
    | (exfalso; omega)
    | (go_ret; exact ⟨ret_bool (by rw [hd.out, Bool.eq_iff_iff]; simp; omega), (by show Below _ _ _; repeat' (first | (with_reducible exact Below.refl _ _) | (with_reducible assumption) | (with_reducible refine belowDrewN ?_ _) | (with_reducible refine Below.alloc ?_ ?_ _) | (with_reducible refine Below.drew ?_) | (with_reducible refine Below.setCell ?_ ?_ _) | go_size))⟩)

def lotsB (n : Nat) (E : Nat → Ent) (most : Int) : Bool := decide (most < (n : Int)) || (List.range n).any fun k => largeB (E k)
theorem lotsB_hit {n k : Nat} {E : Nat → Ent} {most : Int} (hk : k < n) (h : largeB (E k) = true) : lotsB n E most = true := by
  unfold lotsB
  have : ((List.range n).any fun k => largeB (E k)) = true := by
    rw [List.any_eq_true]
    exact ⟨k, by simpa using hk, h⟩
  simp [this]
theorem lotsB_none {n : Nat} {E : Nat → Ent} {most : Int} (hn : (n : Int) ≤ most) (h : ∀ j, j < n → largeB (E j) = false) : lotsB n E most = false := by
  unfold lotsB
  have : ((List.range n).any fun k => largeB (E k)) = false := by
    rw [List.any_eq_false]
    intro x hx
    simp [h x (by simpa using hx)]
  simp [this, hn]

end Go.Proofs.YtbofobakphlpbaaDoor
