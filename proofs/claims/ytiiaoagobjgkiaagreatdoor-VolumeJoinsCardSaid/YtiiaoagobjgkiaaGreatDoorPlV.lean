/-
  An error with a place, once more: for the texts that may not import the records' (their names meet). No conditions.
-/
import Derived.Test.YtiiaoagobjgkiaaGreatDoorBare
import Derived.LaidEql
import Derived.Stop.Asserts
import Derived.RowKitTokens
import Derived.Test.YtiiaoagobjgkiaaGreatDoorDet
namespace Go.Proofs.YtiiaoagobjgkiaaGreatDoor
open Go.RowKit Go.Extern.Stop Go.Stop Go.Extern

theorem at_typeOf (v : Value) (w : World) : (ReflectliteType.typeOf #[.iface 88 v]).run Tryz.prog w = .ok (.iface 213 (.agg #[.pointer (some ⟨4, 88, none⟩)])) w := by kernel_rfl
theorem at_assignable (w : World) : (ReflectliteType.relation "AssignableTo" ReflectliteType.assignableTo #[.agg #[.pointer (some ⟨4, 88, none⟩)], .iface 213 (.agg #[.pointer (some ⟨4, 23, none⟩)])]).run Tryz.prog w = .ok (.bool false) w := by kernel_rfl
@[go_sem] theorem at_no_as (v : Value) (w : World) : (Instr.typeAssert (.iface 88 v) 29 231 true).run Tryz.prog w = .ok (.tuple #[.nilIface, .bool false]) w :=
  run_typeAssert_lacksB Tryz.underlying231 (by kernel_rfl) (by kernel_rfl) v _ w
@[go_sem] theorem at_unwrap (v : Value) (w : World) : (Instr.typeAssert (.iface 88 v) 29 135 true).run Tryz.prog w = .ok (.tuple #[.iface 88 v, .bool true]) w :=
  run_typeAssert_hasB Tryz.underlying135 (by kernel_rfl) v _ w
theorem at_method (v : Value) (w : World) : (Go.method 397 88 v "Unwrap").run Tryz.prog w = .ok (249, v) w := by kernel_rfl

/-- (*At).Unwrap: its Errno. -/
theorem unwrap_at (k : Int) (b : Nat) (w : World) (h : w.cell? ⟨b, 0, none⟩ = some (.int .i64 k)) : Calls Tryz.prog 249 #[.pointer (some ⟨b, 0, none⟩)] w fun e w' => e = .returned (.iface 23 (.int .i64 k)) ∧ w' = w := by
  go_enter Tryz.func249, Tryz.ntmps249
  go_wp2
  go_ret
  exact ⟨rfl, rfl⟩

set_option maxHeartbeats 4000000 in
set_option maxRecDepth 100000 in
theorem as_at (e : Int) (b : Nat) (t : Addr) (old : Value) (w : World) (hg : w.cell? ⟨0, 0, none⟩ = some (.iface 213 (.agg #[.pointer (some ⟨4, 29, none⟩)]))) (ht0 : w.cell? t = some old) (hf0 : w.frozen? t = false) (hb : w.cell? ⟨b, 0, none⟩ = some (.int .i64 e)) :
    Calls Tryz.prog 80 #[.iface 88 (.pointer (some ⟨b, 0, none⟩)), .iface 133 (.pointer (some t))] w fun ev w' => ev = .returned (.bool true) ∧ w' = ((((w.alloc (.cells #[.pointer (some t)] 133)).alloc (.cells #[.pointer (some ⟨4, 133, none⟩), .pointer (some ⟨w.heap.size, 0, none⟩), .int .u64 150] 158)).alloc (.cells #[.pointer (some ⟨4, 133, none⟩), .pointer (some ⟨w.heap.size, 0, none⟩), .int .u64 150] 158)).alloc (.cells #[.int .i64 e] 23)).setCell t (.int .i64 e) := by
  have h6 := @run_callFunc_extern Tryz.prog 102 _ (fun args => ReflectliteValue.unpack (args.getD 0 (.tuple #[]))) Tryz.func102 (by kernel_rfl) (by kernel_rfl) (by kernel_rfl) (by kernel_rfl)
  have h7 := @run_callFunc_extern Tryz.prog 123 _ (ReflectliteValue.methodAny (ReflectliteValue.valueError "reflectlite.Value.Type" 0) (fun t _ _ _ => ReflectliteType.toType t)) Tryz.func123 (by kernel_rfl) (by kernel_rfl) (by kernel_rfl) (by kernel_rfl)
  have h8 := @run_callFunc_extern Tryz.prog 124 _ (ReflectliteValue.method (ReflectliteValue.valueError "reflectlite.Value.IsNil" 0) ReflectliteValue.isNil) Tryz.func124 (by kernel_rfl) (by kernel_rfl) (by kernel_rfl) (by kernel_rfl)
  have h27 := @run_callFunc_extern Tryz.prog 241 _ (ReflectliteType.abiMethod fun t => do pure (.int .u8 (← Rtype.kind t))) Tryz.func241 (by kernel_rfl) (by kernel_rfl) (by kernel_rfl) (by kernel_rfl)
  have h37 := @run_callFunc_extern Tryz.prog 257 _ (ReflectliteType.method ReflectliteType.elem) Tryz.func257 (by kernel_rfl) (by kernel_rfl) (by kernel_rfl) (by kernel_rfl)
  have h38 := @run_callFunc_extern Tryz.prog 258 _ (ReflectliteType.relation "Implements" ReflectliteType.implements_) Tryz.func258 (by kernel_rfl) (by kernel_rfl) (by kernel_rfl) (by kernel_rfl)
  have h10 := @run_callFunc_extern Tryz.prog 178 _ ReflectliteType.typeOf Tryz.func178 (by kernel_rfl) (by kernel_rfl) (by kernel_rfl) (by kernel_rfl)
  have h35 := @run_callFunc_extern Tryz.prog 255 _ (ReflectliteType.relation "AssignableTo" ReflectliteType.assignableTo) Tryz.func255 (by kernel_rfl) (by kernel_rfl) (by kernel_rfl) (by kernel_rfl)
  have h11 := @run_callFunc_extern Tryz.prog 179 _ (ReflectliteValue.method (ReflectliteValue.valueError "reflectlite.Value.Elem" 0) ReflectliteValue.elem) Tryz.func179 (by kernel_rfl) (by kernel_rfl) (by kernel_rfl) (by kernel_rfl)
  have h12 := @run_callFunc_extern Tryz.prog 180 _ ReflectliteValue.set Tryz.func180 (by kernel_rfl) (by kernel_rfl) (by kernel_rfl) (by kernel_rfl)
  have tA := at_typeOf
  have aA := at_assignable
  have mU := at_method
  have tO := as_typeOf25
  have mA := as_methodAssignableTo
  have a25 := as_assignable25
  have v25 := as_valueOf25
  have f6 := as_valueOf27
  have f7 := as_type27
  have mK := as_methodKind
  have mE := as_methodElem
  have mI := as_methodImplements
  have k27 := as_kind27
  have k25 := as_kind25
  have e27 := as_elem27
  have i25 := as_implements25
  have n8 := as_isNil27 ⟨w.heap.size, 0, none⟩ t ((w.alloc (.cells #[.pointer (some t)] 133)).alloc (.cells #[.pointer (some ⟨4, 133, none⟩), .pointer (some ⟨w.heap.size, 0, none⟩), .int .u64 150] 158)) (by simp)
  have hlt : 0 < w.heap.size := World.block_lt_of_cell? w _ hg
  have hg2 : ((w.alloc (.cells #[.pointer (some t)] 133)).alloc (.cells #[.pointer (some ⟨4, 133, none⟩), .pointer (some ⟨w.heap.size, 0, none⟩), .int .u64 150] 158)).cell? ⟨0, 0, none⟩ = some (.iface 213 (.agg #[.pointer (some ⟨4, 29, none⟩)])) := by
    rw [World.cell?_alloc_lt _ _ ⟨0, 0, none⟩ (by simp <;> omega), World.cell?_alloc_lt _ _ ⟨0, 0, none⟩ hlt]; exact hg
  have htl : t.block < w.heap.size := by
    rcases Nat.lt_or_ge t.block w.heap.size with h | h
    · exact h
    · simp [World.cell?, Array.getElem?_eq_none h] at ht0
  have hbl : b < w.heap.size := by
    rcases Nat.lt_or_ge b w.heap.size with h | h
    · exact h
    · simp [World.cell?, Array.getElem?_eq_none h] at hb
  have hb3 : (((w.alloc (.cells #[.pointer (some t)] 133)).alloc (.cells #[.pointer (some ⟨4, 133, none⟩), .pointer (some ⟨w.heap.size, 0, none⟩), .int .u64 150] 158)).alloc (.cells #[.pointer (some ⟨4, 133, none⟩), .pointer (some ⟨w.heap.size, 0, none⟩), .int .u64 150] 158)).cell? ⟨b, 0, none⟩ = some (.int .i64 e) := by
    rw [World.cell?_alloc_lt _ _ ⟨b, 0, none⟩ (by simp <;> omega), World.cell?_alloc_lt _ _ ⟨b, 0, none⟩ (by simp <;> omega), World.cell?_alloc_lt _ _ ⟨b, 0, none⟩ hbl]; exact hb
  have el := as_elemV27 ⟨w.heap.size, 0, none⟩ t (((w.alloc (.cells #[.pointer (some t)] 133)).alloc (.cells #[.pointer (some ⟨4, 133, none⟩), .pointer (some ⟨w.heap.size, 0, none⟩), .int .u64 150] 158)).alloc (.cells #[.pointer (some ⟨4, 133, none⟩), .pointer (some ⟨w.heap.size, 0, none⟩), .int .u64 150] 158)) (by rw [World.cell?_alloc_lt _ _ ⟨w.heap.size, 0, none⟩ (by simp <;> omega)]; simp)
  have st := as_set25 t ⟨w.heap.size + 1 + 1 + 1, 0, none⟩ e old ((((w.alloc (.cells #[.pointer (some t)] 133)).alloc (.cells #[.pointer (some ⟨4, 133, none⟩), .pointer (some ⟨w.heap.size, 0, none⟩), .int .u64 150] 158)).alloc (.cells #[.pointer (some ⟨4, 133, none⟩), .pointer (some ⟨w.heap.size, 0, none⟩), .int .u64 150] 158)).alloc (.cells #[.int .i64 e] 23))
    (by rw [World.cell?_alloc_at _ _ _ _ (by simp)]; rfl)
    (by rw [World.cell?_alloc_lt _ _ t (by simp <;> omega), World.cell?_alloc_lt _ _ t (by simp <;> omega), World.cell?_alloc_lt _ _ t (by simp <;> omega), World.cell?_alloc_lt _ _ t htl]; exact ht0)
    (by rw [World.frozen?_alloc_old _ _ t (by simp <;> omega), World.frozen?_alloc_old _ _ t (by simp <;> omega), World.frozen?_alloc_old _ _ t (by simp <;> omega), World.frozen?_alloc_old _ _ t (Nat.ne_of_lt htl)]; exact hf0)
  go_enter Tryz.func80, Tryz.ntmps80
  go_wp2
  refine wp_loop_rounds 2 ?_
  rw [rounds_succ]
  go_wp2
  rw [rounds_succ]
  go_wp2
  go_ret
  exact ⟨rfl, rfl⟩
end Go.Proofs.YtiiaoagobjgkiaaGreatDoor
namespace Go.Proofs.YtiiaoagobjgkiaaGreatDoor
open Go.RowKit Go.Stop

/-- An error with a place. -/
def IsAt (w : World) (b : Nat) (k pl : Int) : Prop := w.cell? ⟨b, 0, none⟩ = some (.int .i64 k) ∧ w.cell? ⟨b, 1, none⟩ = some (.int .i64 pl)
theorem IsAt.ext {w w' : World} {b : Nat} {k pl : Int} (h : IsAt w b k pl) (e : Ext w w') : IsAt w' b k pl := ⟨e.cell h.1, e.cell h.2⟩

set_option maxHeartbeats 4000000 in
set_option maxRecDepth 100000 in
theorem tell_at (k pl : Int) (b : Nat) (w : World) (hg : HasHandle w) (h : IsAt w b k pl) : Calls Tryz.prog 42 #[.iface 88 (.pointer (some ⟨b, 0, none⟩))] w fun e w' => e = .returned (.int .i64 k) ∧ Ext w w' := by
  have hx : Ext w (w.alloc (.cells #[.int .i64 0] 23)) := Ext.alloc (Ext.refl w) _
  have hA : HasHandle (w.alloc (.cells #[.int .i64 0] 23)) := hg.ext hx
  have hB := (h.ext hx).1
  go_enter Tryz.func42, Tryz.ntmps42
  go_wp2_with ((refine (as_at k b _ (.int .i64 0) _ hA (by simp) (by simp) hB).mono ?_); rintro e w' ⟨rfl, rfl⟩)
  go_ret
  refine ⟨rfl, (by show Below _ _ _; repeat' (first | (with_reducible exact Below.refl _ _) | (with_reducible assumption) | (with_reducible refine belowDrewN ?_ _) | (with_reducible refine Below.alloc ?_ ?_ _) | (with_reducible refine Below.drew ?_) | (with_reducible refine Below.setCell ?_ ?_ _) | go_size))⟩

set_option maxRecDepth 100000 in
theorem place_at (k pl : Int) (b : Nat) (w : World) (hg : HasHandle w) (h : IsAt w b k pl) : Calls Tryz.prog 43 #[.iface 88 (.pointer (some ⟨b, 0, none⟩))] w fun e w' => e = .returned (.tuple #[.int .i64 k, .int .i64 pl]) ∧ Ext w w' := by
  go_enter Tryz.func43, Tryz.ntmps43
  go_wp2_with ((refine (tell_at k pl b _ hg h).mono ?_); rintro e w' ⟨rfl, hx⟩)
  have h1 := (h.ext hx).1
  have h2 := (h.ext hx).2
  have lb : b < w'.heap.size := World.block_lt_of_cell? w' _ h1
  refine wp_loop_rounds 1 ?_
  rw [rounds_succ]
  go_wp2_with fail
  refine wp_region_det (Stood _) (by kernel_rfl) (by kernel_rfl) (Stood.start _) ?_
  repeat (first
    | (refine det_skip (by rfl) ?_; simp only [Act.put, List.setIfInBounds_toArray, List.set_cons_zero, List.set_cons_succ])
    | (refine det_op (v := ?_) rfl (by rfl) (fun w' hS => ?_) ?_; rotate_left; (focus (obtain ⟨hcl, hxt⟩ := hS; go_wp2_with (fail); (first | refine ⟨?_, rfl, hcl, hxt⟩ | refine ⟨?_, rfl, Stood.of (hxt.trans (by assumption))⟩); (first | (simp only [List.getElem?_toArray, List.getElem?_cons_succ, List.getElem?_cons_zero]; rfl) | rfl))); simp only [Act.put, List.setIfInBounds_toArray, List.set_cons_zero, List.set_cons_succ]))
  refine det_end ?_
  intro w2 hS
  have hx2 := hS.2
  clear hS
  go_wp2_with fail
  go_ret2
  exact ⟨rfl, hx.trans hx2⟩
end Go.Proofs.YtiiaoagobjgkiaaGreatDoor
namespace Go.Proofs.YtiiaoagobjgkiaaGreatDoor
open Go.RowKit Go.Stop

/-- The value v is the error k (0: none) at the place pl (-1: none). -/
def IsErr (w : World) (v : Value) (k pl : Int) : Prop := (pl = -1 ∧ v = errOf k) ∨ ∃ b : Nat, v = .iface 88 (.pointer (some ⟨b, 0, none⟩)) ∧ IsAt w b k pl
theorem IsErr.ext {w w' : World} {v : Value} {k pl : Int} (h : IsErr w v k pl) (e : Ext w w') : IsErr w' v k pl := h.imp id fun ⟨b, hv, ha⟩ => ⟨b, hv, ha.ext e⟩
theorem place_any (v : Value) (k pl : Int) (w : World) (hg : HasHandle w) (h : IsErr w v k pl) : Calls Tryz.prog 43 #[v] w fun e w' => e = .returned (.tuple #[.int .i64 k, .int .i64 pl]) ∧ Ext w w' := by
  rcases h with ⟨rfl, rfl⟩ | ⟨b, rfl, ha⟩
  · exact place_errOf k w hg
  · exact place_at k pl b w hg ha

set_option maxHeartbeats 1600000 in
set_option maxRecDepth 100000 in
theorem placed_any (v : Value) (k pl e a : Int) (w : World) (hg : HasHandle w) (h : IsErr w v k pl) : Calls Tryz.prog 13 #[v, .agg #[.int .i64 e, .int .i64 a]] w fun x w' => x = .returned (.bool (k == e && pl == a)) ∧ Ext w w' := by
  have C1 := Lib.hid (fun w1 (hE : Ext w w1) => place_any v k pl w1 (hg.ext hE) (h.ext hE))
  have hx0 : Ext w (w.alloc (.cells #[.int .i64 e, .int .i64 a] 25)) := (Ext.refl w).alloc _
  have hcells : ∀ W : World, Ext (w.alloc (.cells #[.int .i64 e, .int .i64 a] 25)) W → W.cell? ⟨w.heap.size, 0, none⟩ = some (.int .i64 e) ∧ W.cell? ⟨w.heap.size, 1, none⟩ = some (.int .i64 a) ∧ w.heap.size < W.heap.size := fun W hW => by
    have h1 := hW.cell (show (w.alloc (.cells #[.int .i64 e, .int .i64 a] 25)).cell? ⟨w.heap.size, 0, none⟩ = some (.int .i64 e) by simp)
    have h2 := hW.cell (show (w.alloc (.cells #[.int .i64 e, .int .i64 a] 25)).cell? ⟨w.heap.size, 1, none⟩ = some (.int .i64 a) by simp)
    exact ⟨h1, h2, World.block_lt_of_cell? W _ h1⟩
  have Hcells := Lib.hid hcells
  clear hcells h
  cases hk : k == e with
  | true =>
    have Hk := Lib.hid hk
    cases hp : pl == a with
    | true =>
      have Hp := Lib.hid hp
      go_enter Tryz.func13, Tryz.ntmps13
      go_wp2_with fail
      refine (C1.out _ hx0).mono ?_; rintro x w1 ⟨rfl, hx1⟩
      obtain ⟨g1, g2, g3⟩ := Hcells.out w1 hx1
      go_wp2_with fail
      go_ret
      exact ⟨ret_bool (by simp), hx0.trans hx1⟩
    | false =>
      have Hp := Lib.hid hp
      go_enter Tryz.func13, Tryz.ntmps13
      go_wp2_with fail
      refine (C1.out _ hx0).mono ?_; rintro x w1 ⟨rfl, hx1⟩
      obtain ⟨g1, g2, g3⟩ := Hcells.out w1 hx1
      go_wp2_with fail
      go_ret
      exact ⟨ret_bool (by simp), hx0.trans hx1⟩
  | false =>
    have Hk := Lib.hid hk
    go_enter Tryz.func13, Tryz.ntmps13
    go_wp2_with fail
    refine (C1.out _ hx0).mono ?_; rintro x w1 ⟨rfl, hx1⟩
    obtain ⟨g1, g2, g3⟩ := Hcells.out w1 hx1
    go_wp2_with fail
    go_ret
    exact ⟨ret_bool (by simp), hx0.trans hx1⟩
theorem placed_same (v : Value) (k pl : Int) (w : World) (hg : HasHandle w) (h : IsErr w v k pl) : Calls Tryz.prog 13 #[v, .agg #[.int .i64 k, .int .i64 pl]] w fun x w' => x = .returned (.bool true) ∧ Ext w w' := by
  have := placed_any v k pl k pl w hg h
  simpa using this
end Go.Proofs.YtiiaoagobjgkiaaGreatDoor
