/-
  Members: how they lie in memory; large, lots.
-/
import Derived.Test.YtedcibjnnihhfaaDoorNum
import Derived.Test.YtedcibjnnihhfaaDoorRead
namespace Go.Proofs.YtedcibjnnihhfaaDoor
open Go.RowKit Go.WideShapes

/-- A member's fields; its pieces: the slice's address, length, capacity. -/
structure Ent where
  nm : ByteArray
  kd : Int
  md : Int
  ui : Int
  gi : Int
  sz : Int
  ts : Int
  tn : Int
  lk : ByteArray
  us : ByteArray
  gr : ByteArray
  ma : Int
  mi : Int
  dt : ByteArray
  pa : Option Addr
  pn : Nat
  pc : Nat

/-- Its texts are within the reach, its numbers fit their kinds. -/
structure Ent.Ok (e : Ent) : Prop where
  nm : e.nm.size ≤ 140737488351232
  lk : e.lk.size ≤ 140737488351232
  us : e.us.size ≤ 140737488351232
  gr : e.gr.size ≤ 140737488351232
  dt : e.dt.size ≤ 140737488351232
  pn : e.pn ≤ 8796093022200
  kd0 : 0 ≤ e.kd
  kd1 : e.kd ≤ 255

def Ent.cells (e : Ent) : List Value := [.string e.nm, .int .u8 e.kd, .int .i64 e.md, .int .i64 e.ui, .int .i64 e.gi, .int .i64 e.sz, .int .i64 e.ts, .int .i64 e.tn, .string e.lk, .string e.us, .string e.gr, .int .i64 e.ma, .int .i64 e.mi, .string e.dt, .slice e.pa e.pn e.pc]

/-- The slice value v holds n members. -/
def IsEnts (w : World) (v : Value) (n : Nat) (E : Nat → Ent) : Prop :=
  ((∃ a c, v = .slice a 0 c) ∧ n = 0) ∨ ∃ (b off cap : Nat), v = .slice (some ⟨b, off, none⟩) n cap ∧ n ≤ 8796093022200 ∧
    ∀ k, k < n → (E k).Ok ∧ ∀ j, j < 15 → w.cell? ⟨b, off + k * 15 + j, none⟩ = (E k).cells[j]?

theorem IsEnts.ext {w w' : World} {v : Value} {n : Nat} {E : Nat → Ent} (h : IsEnts w v n E) (hE : Ext w w') : IsEnts w' v n E :=
  h.imp id fun ⟨b, off, cap, hv, hn, hc⟩ => ⟨b, off, cap, hv, hn, fun k hk => ⟨(hc k hk).1, fun j hj => by
    have h1 := (hc k hk).2 j hj
    have h2 : (E k).cells[j]? = some ((E k).cells[j]'(by simpa [Ent.cells] using hj)) := List.getElem?_eq_getElem _
    rw [h2] at h1
    rw [hE.cell h1, h2]⟩⟩

def largeB (e : Ent) : Bool := decide (700 < (e.nm.size : Int) + e.lk.size + e.us.size + e.gr.size) || decide (900 < (e.dt.size : Int)) && decide ((e.dt.size : Int) < 3991) || decide (4009 < (e.dt.size : Int)) || decide (30 < (e.pn : Int))

set_option maxRecDepth 100000 in
theorem large_any (e : Ent) (ok : e.Ok) (w : World) : Calls Tryd.prog 49 #[.agg #[.string e.nm, .int .u8 e.kd, .int .i64 e.md, .int .i64 e.ui, .int .i64 e.gi, .int .i64 e.sz, .int .i64 e.ts, .int .i64 e.tn, .string e.lk, .string e.us, .string e.gr, .int .i64 e.ma, .int .i64 e.mi, .string e.dt, .slice e.pa e.pn e.pc]] w fun x w' => x = .returned (.bool (largeB e)) ∧ Ext w w' := by
  have h1 := ok.nm
  have h2 := ok.lk
  have h3 := ok.us
  have h4 := ok.gr
  have h5 := ok.dt
  have h6 := ok.pn
  have hd : Hid (largeB e = (decide (700 < (e.nm.size : Int) + e.lk.size + e.us.size + e.gr.size) || decide (900 < (e.dt.size : Int)) && decide ((e.dt.size : Int) < 3991) || decide (4009 < (e.dt.size : Int)) || decide (30 < (e.pn : Int)))) := Lib.hid rfl
  go_enter Tryd.func49, Tryd.ntmps49
  go_wp2_with fail
  all_goals first
    | (exfalso; omega)
    | (go_ret; exact ⟨ret_bool (by rw [hd.out, Bool.eq_iff_iff]; simp; omega), (by show Below _ _ _; repeat' (first | (with_reducible exact Below.refl _ _) | (with_reducible assumption) | (with_reducible refine belowDrewN ?_ _) | (with_reducible refine Below.alloc ?_ ?_ _) | (with_reducible refine Below.drew ?_) | (with_reducible refine Below.setCell ?_ ?_ _) | go_size))⟩)

def lotsB (n : Nat) (E : Nat → Ent) (most : Int) : Bool := decide (most < (n : Int)) || (List.range n).any fun k => largeB (E k)
theorem lotsB_hit {n k : Nat} {E : Nat → Ent} {most : Int} (hk : k < n) (h : largeB (E k) = true) : lotsB n E most = true := by
  unfold lotsB
  have : ((List.range n).any fun k => largeB (E k)) = true := by
    rw [List.any_eq_true]
    exact ⟨k, by simpa using hk, h⟩
  simp [this]
theorem lotsB_none {n : Nat} {E : Nat → Ent} {most : Int} (hn : (n : Int) ≤ most) (h : ∀ j, j < n → largeB (E j) = false) : lotsB n E most = false := by
  unfold lotsB
  have : ((List.range n).any fun k => largeB (E k)) = false := by
    rw [List.any_eq_false]
    intro x hx
    simp [h x (by simpa using hx)]
  simp [this, hn]

set_option maxHeartbeats 1600000 in
set_option maxRecDepth 100000 in
theorem lots_any (w : World) (v : Value) (n : Nat) (E : Nat → Ent) (most : Int) (h : IsEnts w v n E) : Calls Tryd.prog 17 #[v, .int .i64 most] w fun x w' => x = .returned (.bool (lotsB n E most)) ∧ Ext w w' := by
  by_cases hm : most < (n : Int)
  · have er : Hid (lotsB n E most = true) := Lib.hid (by unfold lotsB; simp [hm])
    rcases h with ⟨⟨a, c, rfl⟩, rfl⟩ | ⟨b, off, cap, rfl, hn, hc⟩
    all_goals
      go_enter Tryd.func17, Tryd.ntmps17
      go_wp2_with fail
      go_ret
      exact ⟨ret_bool (by rw [er.out]), (by show Below _ _ _; repeat' (first | (with_reducible exact Below.refl _ _) | (with_reducible assumption) | (with_reducible refine belowDrewN ?_ _) | (with_reducible refine Below.alloc ?_ ?_ _) | (with_reducible refine Below.drew ?_) | (with_reducible refine Below.setCell ?_ ?_ _) | go_size))⟩
  · have hm' : (n : Int) ≤ most := by omega
    rcases h with ⟨⟨a, c, rfl⟩, rfl⟩ | ⟨b, off, cap, rfl, hn, hc⟩
    · have er : Hid (lotsB 0 E most = false) := Lib.hid (lotsB_none hm' fun j hj => by omega)
      go_enter Tryd.func17, Tryd.ntmps17
      go_wp2_with fail
      refine wp_loop_rounds 1 ?_
      rw [rounds_succ]
      go_wp2_with fail
      go_ret
      exact ⟨ret_bool (by rw [er.out]), (by show Below _ _ _; repeat' (first | (with_reducible exact Below.refl _ _) | (with_reducible assumption) | (with_reducible refine belowDrewN ?_ _) | (with_reducible refine Below.alloc ?_ ?_ _) | (with_reducible refine Below.drew ?_) | (with_reducible refine Below.setCell ?_ ?_ _) | go_size))⟩
    · go_enter Tryd.func17, Tryd.ntmps17
      go_wp2_with fail
      go_loopw [5] (fun i wr => ∃ k : Nat, k ≤ n ∧ i = .int .i64 (k : Int) ∧ (∀ j, j < k → largeB (E j) = false) ∧ Ext w wr) (fun i _ => n - (intOf i).toNat)
      case atStart => exact ⟨0, by omega, rfl, fun j hj => by omega, Ext.refl _⟩
      case round =>
        obtain ⟨k, hk, rfl, hall, hE⟩ := hrel
        have Hall := Lib.hid hall
        clear hall
        by_cases hlt : k < n
        · obtain ⟨ok, hg⟩ := hc k hlt
          have g0 : wr.cell? ⟨b, off + k * 15, none⟩ = some (.string (E k).nm) := hE.cell (hg 0 (by omega))
          have g1 : wr.cell? ⟨b, off + k * 15 + 1, none⟩ = some (.int .u8 (E k).kd) := hE.cell (hg 1 (by omega))
          have g2 : wr.cell? ⟨b, off + k * 15 + 2, none⟩ = some (.int .i64 (E k).md) := hE.cell (hg 2 (by omega))
          have g3 : wr.cell? ⟨b, off + k * 15 + 3, none⟩ = some (.int .i64 (E k).ui) := hE.cell (hg 3 (by omega))
          have g4 : wr.cell? ⟨b, off + k * 15 + 4, none⟩ = some (.int .i64 (E k).gi) := hE.cell (hg 4 (by omega))
          have g5 : wr.cell? ⟨b, off + k * 15 + 5, none⟩ = some (.int .i64 (E k).sz) := hE.cell (hg 5 (by omega))
          have g6 : wr.cell? ⟨b, off + k * 15 + 6, none⟩ = some (.int .i64 (E k).ts) := hE.cell (hg 6 (by omega))
          have g7 : wr.cell? ⟨b, off + k * 15 + 7, none⟩ = some (.int .i64 (E k).tn) := hE.cell (hg 7 (by omega))
          have g8 : wr.cell? ⟨b, off + k * 15 + 8, none⟩ = some (.string (E k).lk) := hE.cell (hg 8 (by omega))
          have g9 : wr.cell? ⟨b, off + k * 15 + 9, none⟩ = some (.string (E k).us) := hE.cell (hg 9 (by omega))
          have g10 : wr.cell? ⟨b, off + k * 15 + 10, none⟩ = some (.string (E k).gr) := hE.cell (hg 10 (by omega))
          have g11 : wr.cell? ⟨b, off + k * 15 + 11, none⟩ = some (.int .i64 (E k).ma) := hE.cell (hg 11 (by omega))
          have g12 : wr.cell? ⟨b, off + k * 15 + 12, none⟩ = some (.int .i64 (E k).mi) := hE.cell (hg 12 (by omega))
          have g13 : wr.cell? ⟨b, off + k * 15 + 13, none⟩ = some (.string (E k).dt) := hE.cell (hg 13 (by omega))
          have g14 : wr.cell? ⟨b, off + k * 15 + 14, none⟩ = some (.slice (E k).pa (E k).pn (E k).pc) := hE.cell (hg 14 (by omega))
          have Hc := Lib.hid hc
          have Hg := Lib.hid hg
          clear hc hg
          have cl := fun w => large_any (E k) ok w
          cases hb : largeB (E k) with
          | true =>
            rw [hb] at cl
            have Cl := Lib.hid cl
            have er := Lib.hid (lotsB_hit (most := most) hlt hb)
            clear cl hb
            go_wp2_with fail
            refine (Cl.out _).mono ?_; rintro e w1 ⟨rfl, hx1⟩
            go_wp2_with fail
            go_ret
            exact ⟨ret_bool (by rw [er.out]), hE.trans hx1⟩
          | false =>
            rw [hb] at cl
            have Cl := Lib.hid cl
            have Hb := Lib.hid hb
            clear cl hb
            go_wp2_with fail
            refine (Cl.out _).mono ?_; rintro e w1 ⟨rfl, hx1⟩
            go_wp2_with fail
            go_roundw
            case rel => exact ⟨k + 1, by omega, by go_num, noneBelow_succ Hall.out Hb.out, hE.trans hx1⟩
            case measure => simp [intOf]; omega
        · obtain rfl : k = n := by omega
          have er := Lib.hid (lotsB_none hm' Hall.out)
          go_wp2_with fail
          go_ret
          exact ⟨ret_bool (by rw [er.out]), hE⟩
end Go.Proofs.YtedcibjnnihhfaaDoor
