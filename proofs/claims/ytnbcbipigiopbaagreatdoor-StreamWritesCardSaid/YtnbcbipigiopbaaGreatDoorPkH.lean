/-
  Contracts of the functions on times: Right of the program; TimeRight of the reference.
-/
import Derived.Test.YtnbcbipigiopbaaGreatDoorPkA
import Derived.Test.YtnbcbipigiopbaaGreatDoorShelf
import Derived.Lib.Bytealg
import Derived.Test.YtnbcbipigiopbaaGreatDoorPkB
import Derived.Test.YtnbcbipigiopbaaGreatDoorPkC
import Derived.Test.YtnbcbipigiopbaaGreatDoorHoleMap
namespace Go.Proofs.YtnbcbipigiopbaaGreatDoor
open Go.RowKit

def timeB (a b : Int) : Bool := decide (-1099511627776 ≤ a) && decide (a ≤ 1099511627776) && decide (0 ≤ b) && decide (b ≤ 999999999)

theorem stampRight_box (a b : Int) (w : World) : Calls Tryz.prog 88 #[.agg #[.int .i64 a, .int .i64 b]] w fun e w' => e = .returned (.bool (timeB a b)) ∧ w' = w.alloc (.cells #[.int .i64 a, .int .i64 b] 23) := by
  go_enter Tryz.func88, Tryz.ntmps88
  go_wp2_with fail
  all_goals
    go_ret
    exact ⟨ret_bool (by simp [timeB, *] <;> omega), rfl⟩
theorem stampRight_any (a b : Int) (w : World) : Calls Tryz.prog 88 #[.agg #[.int .i64 a, .int .i64 b]] w fun e w' => e = .returned (.bool (timeB a b)) ∧ Ext w w' :=
  (stampRight_box a b w).mono fun _ _ ⟨h, k⟩ => ⟨h, by rw [k]; exact (Ext.refl w).alloc _⟩

theorem timeRight_any (a b : Int) (w : World) : Calls Tryz.prog 71 #[.agg #[.int .i64 a, .int .i64 b]] w fun e w' => e = .returned (.bool (timeB a b)) ∧ Ext w w' := by
  have hp : ∀ w, Calls Tryz.prog 128 #[.int .i64 2, .int .i64 40] w fun e w' => e = .returned (.int .i64 1099511627776) ∧ Ext w w' := fun w => power_any 2 40 (by decide) (by decide) (by decide) w
  by_cases h : -1099511627776 ≤ a ∧ a ≤ 1099511627776
  · obtain ⟨h1, h2⟩ := h
    have Hp := Lib.hid hp
    clear hp
    go_enter Tryz.func71, Tryz.ntmps71
    go_wp2_with fail
    refine wp_region_det (Stood _) (by kernel_rfl) (by kernel_rfl) (Stood.start _) ?_
    repeat (first
      | (refine det_skip (by rfl) ?_; simp only [Act.put, List.setIfInBounds_toArray, List.set_cons_zero, List.set_cons_succ])
      | (refine det_op (v := ?_) rfl (by rfl) (fun w' hS => ?_) ?_; rotate_left; (focus (obtain ⟨hcl, hxt⟩ := hS; go_wp2_with (first | ((with_reducible refine (Hp.out _).mono ?_); rintro e w1 ⟨rfl, hx1⟩) | ((with_reducible refine (within_yes h1 h2 _).mono ?_); rintro e w1 ⟨rfl, hx1⟩) | ((with_reducible refine (within_any b 0 999999999 _).mono ?_); rintro e w1 ⟨rfl, hx1⟩)); (first | refine ⟨?_, rfl, hcl, hxt⟩ | refine ⟨?_, rfl, Stood.of (hxt.trans (by assumption))⟩); (first | (simp only [List.getElem?_toArray, List.getElem?_cons_succ, List.getElem?_cons_zero]; rfl) | rfl))); simp only [Act.put, List.setIfInBounds_toArray, List.set_cons_zero, List.set_cons_succ]))
    refine det_end ?_
    intro w1 hS
    have hx := hS.2
    clear hS
    go_wp2_with fail
    go_ret
    exact ⟨ret_bool (by simp [timeB, h1, h2]), Ext.trans (by show Below _ _ _; repeat' (first | (with_reducible exact Below.refl _ _) | (with_reducible assumption) | (with_reducible refine belowDrewN ?_ _) | (with_reducible refine Below.alloc ?_ ?_ _) | (with_reducible refine Below.drew ?_) | (with_reducible refine Below.setCell ?_ ?_ _) | go_size)) hx⟩
  · have h1 : a < -1099511627776 ∨ 1099511627776 < a := by omega
    have H1 := Lib.hid h1
    have Hp := Lib.hid hp
    clear hp h1 h
    go_enter Tryz.func71, Tryz.ntmps71
    go_wp2_with fail
    refine wp_region_det (Stood _) (by kernel_rfl) (by kernel_rfl) (Stood.start _) ?_
    repeat (first
      | (refine det_skip (by rfl) ?_; simp only [Act.put, List.setIfInBounds_toArray, List.set_cons_zero, List.set_cons_succ])
      | (refine det_op (v := ?_) rfl (by rfl) (fun w' hS => ?_) ?_; rotate_left; (focus (obtain ⟨hcl, hxt⟩ := hS; go_wp2_with (first | ((with_reducible refine (Hp.out _).mono ?_); rintro e w1 ⟨rfl, hx1⟩) | ((with_reducible refine (within_no H1.out _).mono ?_); rintro e w1 ⟨rfl, hx1⟩)); (first | refine ⟨?_, rfl, hcl, hxt⟩ | refine ⟨?_, rfl, Stood.of (hxt.trans (by assumption))⟩); (first | (simp only [List.getElem?_toArray, List.getElem?_cons_succ, List.getElem?_cons_zero]; rfl) | rfl))); simp only [Act.put, List.setIfInBounds_toArray, List.set_cons_zero, List.set_cons_succ]))
    refine det_end ?_
    intro w1 hS
    have hx := hS.2
    clear hS
    go_wp2_with fail
    go_ret
    exact ⟨ret_bool (by have := H1.out; simp [timeB]; omega), Ext.trans (by show Below _ _ _; repeat' (first | (with_reducible exact Below.refl _ _) | (with_reducible assumption) | (with_reducible refine belowDrewN ?_ _) | (with_reducible refine Below.alloc ?_ ?_ _) | (with_reducible refine Below.drew ?_) | (with_reducible refine Below.setCell ?_ ?_ _) | go_size)) hx⟩

end Go.Proofs.YtnbcbipigiopbaaGreatDoor
/-
  Contracts of tree.Right and of the reference's NodeRight.
-/
namespace Go.Proofs.YtnbcbipigiopbaaGreatDoor
open Go.RowKit
variable (kd md ui gi ts tn ma mi : Int) (dt lk : ByteArray) (w : World)

theorem one_any (b : Bool) : Calls Tryz.prog 72 #[.bool b] w fun e w' => e = .returned (.int .i64 (if b = true then 1 else 0)) ∧ Ext w w' := by
  cases b
  all_goals
    go_enter Tryz.func72, Tryz.ntmps72
    go_wp2_with fail
    go_ret
    exact ⟨ret_int (by simp), (by show Below _ _ _; repeat' (first | (with_reducible exact Below.refl _ _) | (with_reducible assumption) | (with_reducible refine belowDrewN ?_ _) | (with_reducible refine Below.alloc ?_ ?_ _) | (with_reducible refine Below.drew ?_) | (with_reducible refine Below.setCell ?_ ?_ _) | go_size))⟩

/-- Where the first byte 0 lies, -1 if there is none. -/
def zi (s : ByteArray) : Int := Lib.indexByte s.data.toList 0

theorem plain_any (s : ByteArray) (most : Int) : Calls Tryz.prog 70 #[.string s, .int .i64 most] w fun e w' => e = .returned (.bool (decide ((s.size : Int) ≤ most) && decide (zi s < 0))) ∧ Ext w w' := by
  have c1 := fun w => Tryz.strings_Contains_one s 0 w
  have C1 := Lib.hid c1
  clear c1
  have hd : Hid (decide (zi s < 0) = !decide (0 ≤ Lib.indexByte s.data.toList 0)) := Lib.hid (by unfold zi; rw [Bool.eq_iff_iff]; simp)
  rw [hd.out]
  go_enter Tryz.func70, Tryz.ntmps70
  go_wp2_with ((with_reducible refine (C1.out _).mono ?_); rintro e w1 ⟨rfl, rfl⟩)
  all_goals
    go_ret
    exact ⟨ret_bool (by simp [*] <;> omega), (by show Below _ _ _; repeat' (first | (with_reducible exact Below.refl _ _) | (with_reducible assumption) | (with_reducible refine belowDrewN ?_ _) | (with_reducible refine Below.alloc ?_ ?_ _) | (with_reducible refine Below.drew ?_) | (with_reducible refine Below.setCell ?_ ?_ _) | go_size))⟩

/-- Is a device's number as it must be? -/
def devB (kd ma mi : Int) : Bool := decide (kd = 51) || decide (kd = 52) || (decide (ma = 0) && decide (mi = 0))
/-- A file is valid. -/
def nodeB (kd md ui gi ts tn ma mi : Int) (dt lk : ByteArray) : Bool :=
  rngB kd 48 54 && !(kd == 49) && rngB md 0 4095 && rngB ui 0 1099511627775 && rngB gi 0 1099511627775 && timeB ts tn &&
  (lk.toList.isEmpty == !(kd == 50)) && decide ((lk.size : Int) ≤ 120) && decide (zi lk < 0) && rngB ma 0 2097151 && rngB mi 0 2097151 &&
  (kd == 51 || kd == 52 || (ma == 0 && mi == 0)) && (if kd = 48 then decide ((dt.size : Int) ≤ 4000) else dt.toList.isEmpty)

end Go.Proofs.YtnbcbipigiopbaaGreatDoor
/-
  Small contracts for the reference's NodeRight.
-/
namespace Go.Proofs.YtnbcbipigiopbaaGreatDoor
open Go.RowKit

theorem bcell3 {W w1 : World} (h : Ext W w1) : (∀ b o, b < W.heap.size → w1.cell? ⟨b, o, none⟩ = W.cell? ⟨b, o, none⟩) ∧ (∀ b o, b < W.heap.size → w1.frozen? ⟨b, o, none⟩ = W.frozen? ⟨b, o, none⟩) :=
  ⟨fun b o hb => h.cells b o hb, fun b o hb => h.frozens b o hb⟩
theorem within_rngE (n low high : Int) (w : World) : Calls Tryz.prog 31 #[.int .i64 n, .int .i64 low, .int .i64 high] w fun e w' => e = .returned (.bool (rngB n low high)) ∧ Ext w w' :=
  (within_rng n low high w).mono fun _ _ ⟨h, k⟩ => ⟨h, by rw [k]; exact Ext.refl _⟩
theorem one_lit (b : Bool) (w : World) : Calls Tryz.prog 72 #[.bool b] w fun e w' => e = .returned (.int .i64 (if b = true then 1 else 0)) ∧ Ext w w' := one_any w b
theorem rng_zero (n : Int) : rngB n 0 0 = (rngB n 0 2097151 && (n == 0)) := by
  unfold rngB
  rw [Bool.eq_iff_iff]
  simp
  omega
theorem size_zero (s : ByteArray) : decide ((s.size : Int) ≤ 0) = s.toList.isEmpty := by
  rw [ByteArray.toList_eq, Bool.eq_iff_iff]
  simp
  constructor
  · first | (rintro rfl; rfl) | (intro h; rw [h]; rfl) | (intro h; exact ByteArray.ext h)
  · first | (intro h; exact ByteArray.ext h) | (rintro rfl; rfl) | (intro h; rw [h]; rfl)
end Go.Proofs.YtnbcbipigiopbaaGreatDoor
/-
  Members: how they lie in memory; large, lots.
-/
namespace Go.Proofs.YtnbcbipigiopbaaGreatDoor
open Go.RowKit Go.WideShapes

/-- A member's fields; its pieces: the slice's address, length, capacity. -/
structure Ent where
  nm : ByteArray
  kd : Int
  md : Int
  ui : Int
  gi : Int
  sz : Int
  ts : Int
  tn : Int
  lk : ByteArray
  us : ByteArray
  gr : ByteArray
  ma : Int
  mi : Int
  dt : ByteArray
  pa : Option Addr
  pn : Nat
  pc : Nat

/-- Its texts are within the reach, its numbers fit their kinds. -/
structure Ent.Ok (e : Ent) : Prop where
  nm : e.nm.size ≤ 140737488351232
  lk : e.lk.size ≤ 140737488351232
  us : e.us.size ≤ 140737488351232
  gr : e.gr.size ≤ 140737488351232
  dt : e.dt.size ≤ 140737488351232
  pn : e.pn ≤ 8796093022200
  kd0 : 0 ≤ e.kd
  kd1 : e.kd ≤ 255

def Ent.cells (e : Ent) : List Value := [.string e.nm, .int .u8 e.kd, .int .i64 e.md, .int .i64 e.ui, .int .i64 e.gi, .int .i64 e.sz, .int .i64 e.ts, .int .i64 e.tn, .string e.lk, .string e.us, .string e.gr, .int .i64 e.ma, .int .i64 e.mi, .string e.dt, .slice e.pa e.pn e.pc]

/-- The slice value v holds n members. -/
def IsEnts (w : World) (v : Value) (n : Nat) (E : Nat → Ent) : Prop :=
  ((∃ a c, v = .slice a 0 c) ∧ n = 0) ∨ ∃ (b off cap : Nat), v = .slice (some ⟨b, off, none⟩) n cap ∧ n ≤ 8796093022200 ∧
    ∀ k, k < n → (E k).Ok ∧ ∀ j, j < 15 → w.cell? ⟨b, off + k * 15 + j, none⟩ = (E k).cells[j]?

theorem IsEnts.ext {w w' : World} {v : Value} {n : Nat} {E : Nat → Ent} (h : IsEnts w v n E) (hE : Ext w w') : IsEnts w' v n E :=
  h.imp id fun ⟨b, off, cap, hv, hn, hc⟩ => ⟨b, off, cap, hv, hn, fun k hk => ⟨(hc k hk).1, fun j hj => by
    have h1 := (hc k hk).2 j hj
    have h2 : (E k).cells[j]? = some ((E k).cells[j]'(by simpa [Ent.cells] using hj)) := List.getElem?_eq_getElem _
    rw [h2] at h1
    rw [hE.cell h1, h2]⟩⟩

def largeB (e : Ent) : Bool := decide (700 < (e.nm.size : Int) + e.lk.size + e.us.size + e.gr.size) || decide (900 < (e.dt.size : Int)) && decide ((e.dt.size : Int) < 3991) || decide (4009 < (e.dt.size : Int)) || decide (30 < (e.pn : Int))

set_option maxRecDepth 100000 in
theorem large_any (e : Ent) (ok : e.Ok) (w : World) : Calls Tryz.prog 16 #[.agg #[.string e.nm, .int .u8 e.kd, .int .i64 e.md, .int .i64 e.ui, .int .i64 e.gi, .int .i64 e.sz, .int .i64 e.ts, .int .i64 e.tn, .string e.lk, .string e.us, .string e.gr, .int .i64 e.ma, .int .i64 e.mi, .string e.dt, .slice e.pa e.pn e.pc]] w fun x w' => x = .returned (.bool (largeB e)) ∧ Ext w w' := by
  have h1 := ok.nm
  have h2 := ok.lk
  have h3 := ok.us
  have h4 := ok.gr
  have h5 := ok.dt
  have h6 := ok.pn
  have hd : Hid (largeB e = (decide (700 < (e.nm.size : Int) + e.lk.size + e.us.size + e.gr.size) || decide (900 < (e.dt.size : Int)) && decide ((e.dt.size : Int) < 3991) || decide (4009 < (e.dt.size : Int)) || decide (30 < (e.pn : Int)))) := Lib.hid rfl
  go_enter Tryz.func16, Tryz.ntmps16
  go_wp2_with fail
  all_goals first
    | (exfalso; omega)
    | (go_ret; exact ⟨ret_bool (by rw [hd.out, Bool.eq_iff_iff]; simp; omega), (by show Below _ _ _; repeat' (first | (with_reducible exact Below.refl _ _) | (with_reducible assumption) | (with_reducible refine belowDrewN ?_ _) | (with_reducible refine Below.alloc ?_ ?_ _) | (with_reducible refine Below.drew ?_) | (with_reducible refine Below.setCell ?_ ?_ _) | go_size))⟩)

def lotsB (n : Nat) (E : Nat → Ent) (most : Int) : Bool := decide (most < (n : Int)) || (List.range n).any fun k => largeB (E k)
theorem lotsB_hit {n k : Nat} {E : Nat → Ent} {most : Int} (hk : k < n) (h : largeB (E k) = true) : lotsB n E most = true := by
  unfold lotsB
  have : ((List.range n).any fun k => largeB (E k)) = true := by
    rw [List.any_eq_true]
    exact ⟨k, by simpa using hk, h⟩
  simp [this]
theorem lotsB_none {n : Nat} {E : Nat → Ent} {most : Int} (hn : (n : Int) ≤ most) (h : ∀ j, j < n → largeB (E j) = false) : lotsB n E most = false := by
  unfold lotsB
  have : ((List.range n).any fun k => largeB (E k)) = false := by
    rw [List.any_eq_false]
    intro x hx
    simp [h x (by simpa using hx)]
  simp [this, hn]

set_option maxHeartbeats 1600000 in
set_option maxRecDepth 100000 in
theorem lots_any (w : World) (v : Value) (n : Nat) (E : Nat → Ent) (most : Int) (h : IsEnts w v n E) : Calls Tryz.prog 10 #[v, .int .i64 most] w fun x w' => x = .returned (.bool (lotsB n E most)) ∧ Ext w w' := by
  by_cases hm : most < (n : Int)
  · have er : Hid (lotsB n E most = true) := Lib.hid (by unfold lotsB; simp [hm])
    rcases h with ⟨⟨a, c, rfl⟩, rfl⟩ | ⟨b, off, cap, rfl, hn, hc⟩
    all_goals
      go_enter Tryz.func10, Tryz.ntmps10
      go_wp2_with fail
      go_ret
      exact ⟨ret_bool (by rw [er.out]), (by show Below _ _ _; repeat' (first | (with_reducible exact Below.refl _ _) | (with_reducible assumption) | (with_reducible refine belowDrewN ?_ _) | (with_reducible refine Below.alloc ?_ ?_ _) | (with_reducible refine Below.drew ?_) | (with_reducible refine Below.setCell ?_ ?_ _) | go_size))⟩
  · have hm' : (n : Int) ≤ most := by omega
    rcases h with ⟨⟨a, c, rfl⟩, rfl⟩ | ⟨b, off, cap, rfl, hn, hc⟩
    · have er : Hid (lotsB 0 E most = false) := Lib.hid (lotsB_none hm' fun j hj => by omega)
      go_enter Tryz.func10, Tryz.ntmps10
      go_wp2_with fail
      refine wp_loop_rounds 1 ?_
      rw [rounds_succ]
      go_wp2_with fail
      go_ret
      exact ⟨ret_bool (by rw [er.out]), (by show Below _ _ _; repeat' (first | (with_reducible exact Below.refl _ _) | (with_reducible assumption) | (with_reducible refine belowDrewN ?_ _) | (with_reducible refine Below.alloc ?_ ?_ _) | (with_reducible refine Below.drew ?_) | (with_reducible refine Below.setCell ?_ ?_ _) | go_size))⟩
    · go_enter Tryz.func10, Tryz.ntmps10
      go_wp2_with fail
      go_loopw [5] (fun i wr => ∃ k : Nat, k ≤ n ∧ i = .int .i64 (k : Int) ∧ (∀ j, j < k → largeB (E j) = false) ∧ Ext w wr) (fun i _ => n - (intOf i).toNat)
      case atStart => exact ⟨0, by omega, rfl, fun j hj => by omega, Ext.refl _⟩
      case round =>
        obtain ⟨k, hk, rfl, hall, hE⟩ := hrel
        have Hall := Lib.hid hall
        clear hall
        by_cases hlt : k < n
        · obtain ⟨ok, hg⟩ := hc k hlt
          have g0 : wr.cell? ⟨b, off + k * 15, none⟩ = some (.string (E k).nm) := hE.cell (hg 0 (by omega))
          have g1 : wr.cell? ⟨b, off + k * 15 + 1, none⟩ = some (.int .u8 (E k).kd) := hE.cell (hg 1 (by omega))
          have g2 : wr.cell? ⟨b, off + k * 15 + 2, none⟩ = some (.int .i64 (E k).md) := hE.cell (hg 2 (by omega))
          have g3 : wr.cell? ⟨b, off + k * 15 + 3, none⟩ = some (.int .i64 (E k).ui) := hE.cell (hg 3 (by omega))
          have g4 : wr.cell? ⟨b, off + k * 15 + 4, none⟩ = some (.int .i64 (E k).gi) := hE.cell (hg 4 (by omega))
          have g5 : wr.cell? ⟨b, off + k * 15 + 5, none⟩ = some (.int .i64 (E k).sz) := hE.cell (hg 5 (by omega))
          have g6 : wr.cell? ⟨b, off + k * 15 + 6, none⟩ = some (.int .i64 (E k).ts) := hE.cell (hg 6 (by omega))
          have g7 : wr.cell? ⟨b, off + k * 15 + 7, none⟩ = some (.int .i64 (E k).tn) := hE.cell (hg 7 (by omega))
          have g8 : wr.cell? ⟨b, off + k * 15 + 8, none⟩ = some (.string (E k).lk) := hE.cell (hg 8 (by omega))
          have g9 : wr.cell? ⟨b, off + k * 15 + 9, none⟩ = some (.string (E k).us) := hE.cell (hg 9 (by omega))
          have g10 : wr.cell? ⟨b, off + k * 15 + 10, none⟩ = some (.string (E k).gr) := hE.cell (hg 10 (by omega))
          have g11 : wr.cell? ⟨b, off + k * 15 + 11, none⟩ = some (.int .i64 (E k).ma) := hE.cell (hg 11 (by omega))
          have g12 : wr.cell? ⟨b, off + k * 15 + 12, none⟩ = some (.int .i64 (E k).mi) := hE.cell (hg 12 (by omega))
          have g13 : wr.cell? ⟨b, off + k * 15 + 13, none⟩ = some (.string (E k).dt) := hE.cell (hg 13 (by omega))
          have g14 : wr.cell? ⟨b, off + k * 15 + 14, none⟩ = some (.slice (E k).pa (E k).pn (E k).pc) := hE.cell (hg 14 (by omega))
          have Hc := Lib.hid hc
          have Hg := Lib.hid hg
          clear hc hg
          have cl := fun w => large_any (E k) ok w
          cases hb : largeB (E k) with
          | true =>
            rw [hb] at cl
            have Cl := Lib.hid cl
            have er := Lib.hid (lotsB_hit (most := most) hlt hb)
            clear cl hb
            go_wp2_with fail
            refine (Cl.out _).mono ?_; rintro e w1 ⟨rfl, hx1⟩
            go_wp2_with fail
            go_ret
            exact ⟨ret_bool (by rw [er.out]), hE.trans hx1⟩
          | false =>
            rw [hb] at cl
            have Cl := Lib.hid cl
            have Hb := Lib.hid hb
            clear cl hb
            go_wp2_with fail
            refine (Cl.out _).mono ?_; rintro e w1 ⟨rfl, hx1⟩
            go_wp2_with fail
            go_roundw
            case rel => exact ⟨k + 1, by omega, by go_num, noneBelow_succ Hall.out Hb.out, hE.trans hx1⟩
            case measure => simp [intOf]; omega
        · obtain rfl : k = n := by omega
          have er := Lib.hid (lotsB_none hm' Hall.out)
          go_wp2_with fail
          go_ret
          exact ⟨ret_bool (by rw [er.out]), hE⟩
end Go.Proofs.YtnbcbipigiopbaaGreatDoor
/-
  An argument of type []api.Piece, opened.
-/
namespace Go.Proofs.YtnbcbipigiopbaaGreatDoor
open Go.ChangeShapes Go.WideShapes Go.ChangeAt Go.RowKit

theorem cells_piece : Tryz.prog.cellsOf 141 = 2 := by kernel_rfl
theorem bytes_piece : Tryz.prog.bytesOf 141 = 16 := by kernel_rfl
theorem cells_int1 : Tryz.prog.cellsOf 3 = 1 := by kernel_rfl

theorem add_plain (b off i : Nat) : (⟨b, off, none⟩ : Addr).add i = ⟨b, off + i, none⟩ := by
  unfold Addr.add
  split <;> simp_all

set_option maxRecDepth 100000 in
theorem rd_piece {W : World} {cs : List Value} (h : Rd W 141 cs) : ∃ a s : Int, cs = [.int .i64 a, .int .i64 s] := by
  obtain ⟨hl, hg⟩ := h.struct Tryz.underlying141
  rw [cells_piece] at hl
  match cs, hl with
  | [c0, c1], _ =>
    have g0 := hg 0 _ rfl
    have g1 := hg 1 _ rfl
    simp [cells_int1] at g0 g1
    obtain ⟨n0, e0, _⟩ := g0.int Tryz.underlying3
    obtain ⟨n1, e1, _⟩ := g1.int Tryz.underlying3
    simp at e0 e1
    subst e0 e1
    exact ⟨_, _, rfl⟩

set_option maxRecDepth 100000 in
theorem arg_pieces {H : Type} {enc : TypeId × Value → H} {W : World} {base : Nat} {v : Value} {d : DataW H} {p : List MemPlace} {ts : List TypeId} {ds : List (DataW H)} {j : Nat}
    (hv : Value.okWide Tryz.prog W .any base 24 v) (h : DataW.Trod enc Tryz.prog W 0 (fun _ => true) true 24 v d p)
    (hsz : (DataW.weightsEach Tryz.prog ts ds).all (· ≤ reachBytes) = true) (ht : ts[j]? = some 24) (hd : ds[j]? = some d) :
    ∃ (n : Nat) (A S : Nat → Int), IsPieces W v n A S := by
  obtain ⟨a, len, cap, rfl⟩ := okWide_slice Tryz.underlying24 hv
  rcases (Rd.ofArg h hsz ht hd).slice Tryz.underlying24 with h0 | ⟨x, l, c, hcs, hlc, hc, hb, hi⟩
  · simp [Value.cells] at h0
    obtain ⟨rfl, rfl, rfl⟩ := h0
    exact ⟨0, fun _ => 0, fun _ => 0, .inl ⟨⟨_, _, rfl⟩, rfl⟩⟩
  · simp [Value.cells] at hcs
    obtain ⟨rfl, rfl, rfl⟩ := hcs
    rw [cells_piece] at hi
    rw [bytes_piece] at hb
    have hq : ∀ i : Nat, ∃ q : Int × Int, i < len → W.cell? (x.add (i * 2)) = some (.int .i64 q.1) ∧ W.cell? (x.add (i * 2 + 1)) = some (.int .i64 q.2) := fun i => by
      by_cases hil : i < len
      · obtain ⟨ecs, _, hat, hr⟩ := hi i hil
        obtain ⟨a, s, rfl⟩ := rd_piece hr
        exact ⟨(a, s), fun _ => ⟨by simpa using hat 0 (by omega), by simpa using hat 1 (by omega)⟩⟩
      · exact ⟨(0, 0), fun h => absurd h hil⟩
    obtain ⟨f, hf⟩ := Classical.axiomOfChoice hq
    obtain ⟨b, off, spot⟩ := x
    by_cases hl0 : len = 0
    · subst hl0
      exact ⟨0, fun _ => 0, fun _ => 0, .inl ⟨⟨_, _, rfl⟩, rfl⟩⟩
    · have hspot : spot = none := by simpa [Addr.add] using World.cell?_spot (hf 0 (by omega)).1
      subst hspot
      exact ⟨len, fun i => (f i).1, fun i => (f i).2, .inr ⟨b, off, cap, rfl, by omega, fun k hk => by
        have := hf k hk
        rw [add_plain, add_plain, ← Nat.add_assoc] at this
        exact this⟩⟩

end Go.Proofs.YtnbcbipigiopbaaGreatDoor
/-
  Members: when one is valid; the small functions of both sides.
-/
namespace Go.Proofs.YtnbcbipigiopbaaGreatDoor
open Go.RowKit Go.WideShapes

theorem memWithin_same (w : World) (n low high : Int) : Calls Tryz.prog 85 #[.int .i64 n, .int .i64 low, .int .i64 high] w fun e w' => e = .returned (.bool (rngB n low high)) ∧ w' = w := by
  go_enter Tryz.func85, Tryz.ntmps85
  go_wp2_with fail
  all_goals
    go_ret
    exact ⟨ret_bool (by simp [rngB, *] <;> omega), rfl⟩
theorem isLink_same (w : World) (k : Int) : Calls Tryz.prog 89 #[.int .u8 k] w fun e w' => e = .returned (.bool (k == 49 || k == 50)) ∧ w' = w := by
  go_enter Tryz.func89, Tryz.ntmps89
  go_wp2_with fail
  all_goals
    go_ret
    exact ⟨ret_bool (by simp [*]), rfl⟩
theorem isDevice_same (w : World) (k : Int) : Calls Tryz.prog 44 #[.int .u8 k] w fun e w' => e = .returned (.bool (k == 51 || k == 52)) ∧ w' = w := by
  go_enter Tryz.func44, Tryz.ntmps44
  go_wp2_with fail
  all_goals
    go_ret
    exact ⟨ret_bool (by simp [*]), rfl⟩

/-- A text of at most so many bytes, none of them 0. -/
def txB (s : ByteArray) (most : Int) : Bool := decide ((s.size : Int) ≤ most) && decide (zi s < 0)
theorem isText_same (w : World) (s : ByteArray) (most : Int) : Calls Tryz.prog 87 #[.string s, .int .i64 most] w fun e w' => e = .returned (.bool (txB s most)) ∧ w' = w := by
  have c1 := fun w => Tryz.strings_IndexByte s 0 w
  rw [show Lib.indexByte s.data.toList (Int.toNat 0).toUInt8 = zi s from rfl] at c1
  have C1 := Lib.hid c1
  have hd : Hid (txB s most = (decide ((s.size : Int) ≤ most) && decide (zi s < 0))) := Lib.hid rfl
  clear c1
  generalize zi s = z at *
  go_enter Tryz.func87, Tryz.ntmps87
  go_wp2_with ((with_reducible refine (C1.out _).mono ?_); rintro e w1 ⟨rfl, rfl⟩)
  all_goals
    go_ret
    exact ⟨ret_bool (by rw [hd.out]; simp [*] <;> omega), rfl⟩
theorem refPlain_any (w : World) (s : ByteArray) (most : Int) : Calls Tryz.prog 70 #[.string s, .int .i64 most] w fun e w' => e = .returned (.bool (txB s most)) ∧ Ext w w' := plain_any w s most

/-- It ends in a slash. -/
def sufB (s : ByteArray) : Bool := Lib.hasSuffix s.data.toList [47]
/-- Has it holes? -/
def spB (sz : Int) (dt : ByteArray) (n : Nat) : Bool := decide (0 < n) || !((dt.size : Int) == sz)
/-- Its size and its bytes are as they must be. -/
def filB (kd sz : Int) (dt : ByteArray) (n : Nat) (A S : Nat → Int) : Bool :=
  if kd = 48 then rngB sz 0 4000 && (!spB sz dt n || (holeB n A S sz && ((dt.size : Int) == sumW S n))) else (sz == 0) && dt.toList.isEmpty && decide (n = 0)
/-- A member is valid. -/
def memB (kd md ui gi sz ts tn ma mi : Int) (nm lk us gr dt : ByteArray) (n : Nat) (A S : Nat → Int) : Bool :=
  rngB kd 48 54 && !nm.toList.isEmpty && !sufB nm && txB nm 120 && txB lk 120 && txB us 32 && txB gr 32 && rngB md 0 4095 && rngB ui 0 1099511627775 && rngB gi 0 1099511627775 && timeB ts tn &&
  (lk.toList.isEmpty == !(kd == 49 || kd == 50)) && rngB ma 0 2097151 && rngB mi 0 2097151 && (kd == 51 || kd == 52 || (ma == 0 && mi == 0)) && filB kd sz dt n A S
end Go.Proofs.YtnbcbipigiopbaaGreatDoor
/-
  member.Sparse, member.isFilled; the reference's Sparse.
-/
namespace Go.Proofs.YtnbcbipigiopbaaGreatDoor
open Go.RowKit Go.WideShapes

set_option maxRecDepth 100000 in
theorem sparse_any (e : Ent) (ok : e.Ok) (w : World) : Calls Tryz.prog 43 #[.agg #[.string e.nm, .int .u8 e.kd, .int .i64 e.md, .int .i64 e.ui, .int .i64 e.gi, .int .i64 e.sz, .int .i64 e.ts, .int .i64 e.tn, .string e.lk, .string e.us, .string e.gr, .int .i64 e.ma, .int .i64 e.mi, .string e.dt, .slice e.pa e.pn e.pc]] w fun x w' => x = .returned (.bool (spB e.sz e.dt e.pn)) ∧ Ext w w' := by
  have h5 := ok.dt
  have h6 := ok.pn
  have hd : Hid (spB e.sz e.dt e.pn = (decide (0 < e.pn) || !((e.dt.size : Int) == e.sz))) := Lib.hid rfl
  rcases (show decide (0 < e.pn) = true ∨ decide (0 < e.pn) = false by cases decide (0 < e.pn) <;> simp) with q1 | q1
  all_goals
    have Q1 := Lib.hid q1
    go_enter Tryz.func43, Tryz.ntmps43
    go_wp2_with fail
    go_ret
    exact ⟨ret_bool (by rw [hd.out, Q1.out]; simp [bne]), (by show Below _ _ _; repeat' (first | (with_reducible exact Below.refl _ _) | (with_reducible assumption) | (with_reducible refine belowDrewN ?_ _) | (with_reducible refine Below.alloc ?_ ?_ _) | (with_reducible refine Below.drew ?_) | (with_reducible refine Below.setCell ?_ ?_ _) | go_size))⟩
set_option maxRecDepth 100000 in
theorem refSparse_any (e : Ent) (ok : e.Ok) (w : World) : Calls Tryz.prog 37 #[.agg #[.string e.nm, .int .u8 e.kd, .int .i64 e.md, .int .i64 e.ui, .int .i64 e.gi, .int .i64 e.sz, .int .i64 e.ts, .int .i64 e.tn, .string e.lk, .string e.us, .string e.gr, .int .i64 e.ma, .int .i64 e.mi, .string e.dt, .slice e.pa e.pn e.pc]] w fun x w' => x = .returned (.bool (spB e.sz e.dt e.pn)) ∧ Ext w w' := by
  have h5 := ok.dt
  have h6 := ok.pn
  have hd : Hid (spB e.sz e.dt e.pn = (decide (0 < e.pn) || !((e.dt.size : Int) == e.sz))) := Lib.hid rfl
  rcases (show ((e.dt.size : Int) != e.sz) = true ∨ ((e.dt.size : Int) != e.sz) = false by cases ((e.dt.size : Int) != e.sz) <;> simp) with q1 | q1
  all_goals
    have Q1 := Lib.hid q1
    go_enter Tryz.func37, Tryz.ntmps37
    go_wp2_with fail
    go_ret
    exact ⟨ret_bool (by rw [hd.out]; have := Q1.out; simp at this; simp [this]), (by show Below _ _ _; repeat' (first | (with_reducible exact Below.refl _ _) | (with_reducible assumption) | (with_reducible refine belowDrewN ?_ _) | (with_reducible refine Below.alloc ?_ ?_ _) | (with_reducible refine Below.drew ?_) | (with_reducible refine Below.setCell ?_ ?_ _) | go_size))⟩

set_option maxHeartbeats 4000000 in
set_option maxRecDepth 100000 in
theorem isFilled_any (e : Ent) (ok : e.Ok) (A S : Nat → Int) (w : World) (hp : IsPieces w (.slice e.pa e.pn e.pc) e.pn A S) :
    Calls Tryz.prog 90 #[.agg #[.string e.nm, .int .u8 e.kd, .int .i64 e.md, .int .i64 e.ui, .int .i64 e.gi, .int .i64 e.sz, .int .i64 e.ts, .int .i64 e.tn, .string e.lk, .string e.us, .string e.gr, .int .i64 e.ma, .int .i64 e.mi, .string e.dt, .slice e.pa e.pn e.pc]] w fun x w' => x = .returned (.bool (filB e.kd e.sz e.dt e.pn A S)) ∧ Ext w w' := by
  have h5 := ok.dt
  have h6 := ok.pn
  by_cases hk : e.kd = 48
  · have n48 : (e.kd != 48) = false := by simp [hk]
    have hd : Hid (filB e.kd e.sz e.dt e.pn A S = (rngB e.sz 0 4000 && (!spB e.sz e.dt e.pn || (holeB e.pn A S e.sz && ((e.dt.size : Int) == sumW S e.pn))))) := Lib.hid (by unfold filB; rw [if_pos hk])
    clear hk
    have C1 := Lib.hid (fun w => memWithin_same w e.sz 0 4000)
    have C2 := Lib.hid (fun w => sparse_any e ok w)
    cases hr : rngB e.sz 0 4000 with
    | false =>
      have Hr := Lib.hid hr
      clear hr
      go_enter Tryz.func90, Tryz.ntmps90
      go_wp2_with fail
      refine (C1.out _).mono ?_; rintro x w1 ⟨rfl, rfl⟩
      rw [Hr.out]
      go_wp2_with fail
      go_ret
      exact ⟨ret_bool (by rw [hd.out, Hr.out]; rfl), (by show Below _ _ _; repeat' (first | (with_reducible exact Below.refl _ _) | (with_reducible assumption) | (with_reducible refine belowDrewN ?_ _) | (with_reducible refine Below.alloc ?_ ?_ _) | (with_reducible refine Below.drew ?_) | (with_reducible refine Below.setCell ?_ ?_ _) | go_size))⟩
    | true =>
      have hsz : e.sz ≤ 9223372036854775807 := by
        unfold rngB at hr
        simp only [Bool.and_eq_true, decide_eq_true_eq] at hr
        omega
      have C3 := Lib.hid (fun W (hE : Ext w W) => holeRight_any W _ e.pn A S e.sz hsz (hp.ext hE))
      have C4 := Lib.hid (fun W (hE : Ext w W) => holeSize_any W _ e.pn A S (hp.ext hE))
      have Hr := Lib.hid hr
      clear hr hsz hp
      generalize holeB e.pn A S e.sz = b at *
      generalize sumW S e.pn = z at *
      generalize spB e.sz e.dt e.pn = p at *
      cases p <;> cases b
      all_goals
        go_enter Tryz.func90, Tryz.ntmps90
        go_wp2_with fail
        refine (C1.out _).mono ?_; rintro x w1 ⟨rfl, rfl⟩
        rw [Hr.out]
        go_wp2_with fail
        refine wp_region_det (Stood _) (by kernel_rfl) (by kernel_rfl) (Stood.start _) ?_
        repeat (first
          | (refine det_skip (by rfl) ?_; simp only [Act.put, List.setIfInBounds_toArray, List.set_cons_zero, List.set_cons_succ])
          | (refine det_op (v := ?_) rfl (by rfl) (fun w' hS => ?_) ?_; rotate_left; (focus (obtain ⟨hcl, hxt⟩ := hS; go_wp2_with (first | ((with_reducible refine (C2.out _).mono ?_); rintro e w1 ⟨rfl, hx1⟩) | ((with_reducible refine (C3.out _ (Ext.trans ((Ext.refl _).alloc _) hxt)).mono ?_); rintro e w1 ⟨rfl, hx1⟩) | ((with_reducible refine (C4.out _ (Ext.trans ((Ext.refl _).alloc _) hxt)).mono ?_); rintro e w1 ⟨rfl, hx1⟩)); (first | refine ⟨?_, rfl, hcl, hxt⟩ | refine ⟨?_, rfl, Stood.of (hxt.trans (by assumption))⟩); (first | (simp only [List.getElem?_toArray, List.getElem?_cons_succ, List.getElem?_cons_zero]; rfl) | rfl))); simp only [Act.put, List.setIfInBounds_toArray, List.set_cons_zero, List.set_cons_succ]))
        refine det_end ?_
        intro w2 hS
        have hx := hS.2
        clear hS
        go_wp2_with fail
        go_ret
        exact ⟨ret_bool (by rw [hd.out, Hr.out]; simp), Ext.trans (by show Below _ _ _; repeat' (first | (with_reducible exact Below.refl _ _) | (with_reducible assumption) | (with_reducible refine belowDrewN ?_ _) | (with_reducible refine Below.alloc ?_ ?_ _) | (with_reducible refine Below.drew ?_) | (with_reducible refine Below.setCell ?_ ?_ _) | go_size)) hx⟩
  · have n48 : (e.kd != 48) = true := by simp [hk]
    have hd : Hid (filB e.kd e.sz e.dt e.pn A S = ((e.sz == 0) && e.dt.toList.isEmpty && decide (e.pn = 0))) := Lib.hid (by unfold filB; rw [if_neg hk])
    clear hk hp
    rcases (show ((e.sz == 0) = false) ∨ ((e.sz == 0) = true ∧ e.dt.toList.isEmpty = false) ∨ ((e.sz == 0) = true ∧ e.dt.toList.isEmpty = true) by cases e.sz == 0 <;> cases e.dt.toList.isEmpty <;> simp) with q1 | ⟨q1, q2⟩ | ⟨q1, q2⟩
    all_goals
      go_enter Tryz.func90, Tryz.ntmps90
      go_wp2_with fail
      go_ret
      exact ⟨ret_bool (by rw [hd.out]; first | (simp [*]; done) | (rw [q1, q2, Bool.eq_iff_iff]; simp) | (rw [q1, q2, Bool.eq_iff_iff]; simp; omega)), (by show Below _ _ _; repeat' (first | (with_reducible exact Below.refl _ _) | (with_reducible assumption) | (with_reducible refine belowDrewN ?_ _) | (with_reducible refine Below.alloc ?_ ?_ _) | (with_reducible refine Below.drew ?_) | (with_reducible refine Below.setCell ?_ ?_ _) | go_size))⟩
end Go.Proofs.YtnbcbipigiopbaaGreatDoor
