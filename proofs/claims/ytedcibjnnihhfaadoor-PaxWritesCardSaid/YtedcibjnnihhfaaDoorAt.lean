/-
  errors.As at an error with a place (*api.At). Then Tell, Place and 'placed'.
-/
import Derived.Test.YtedcibjnnihhfaaDoorBare
import Derived.LaidEql
import Derived.Stop.Asserts
import Derived.RowKitTokens
namespace Go.Proofs.YtedcibjnnihhfaaDoor
open Go.RowKit Go.Extern.Stop Go.Stop Go.Extern

theorem at_typeOf (v : Value) (w : World) : (ReflectliteType.typeOf #[.iface 124 v]).run Tryd.prog w = .ok (.iface 250 (.agg #[.pointer (some ⟨8, 124, none⟩)])) w := by kernel_rfl
theorem at_assignable (w : World) : (ReflectliteType.relation "AssignableTo" ReflectliteType.assignableTo #[.agg #[.pointer (some ⟨8, 124, none⟩)], .iface 250 (.agg #[.pointer (some ⟨8, 23, none⟩)])]).run Tryd.prog w = .ok (.bool false) w := by kernel_rfl
@[go_sem] theorem at_no_as (v : Value) (w : World) : (Instr.typeAssert (.iface 124 v) 27 255 true).run Tryd.prog w = .ok (.tuple #[.nilIface, .bool false]) w :=
  run_typeAssert_lacksB Tryd.underlying255 (by kernel_rfl) (by kernel_rfl) v _ w
@[go_sem] theorem at_unwrap (v : Value) (w : World) : (Instr.typeAssert (.iface 124 v) 27 159 true).run Tryd.prog w = .ok (.tuple #[.iface 124 v, .bool true]) w :=
  run_typeAssert_hasB Tryd.underlying159 (by kernel_rfl) v _ w
theorem at_method (v : Value) (w : World) : (Go.method 407 124 v "Unwrap").run Tryd.prog w = .ok (221, v) w := by kernel_rfl

/-- (*At).Unwrap: its Errno. -/
theorem unwrap_at (k : Int) (b : Nat) (w : World) (h : w.cell? ⟨b, 0, none⟩ = some (.int .i64 k)) : Calls Tryd.prog 221 #[.pointer (some ⟨b, 0, none⟩)] w fun e w' => e = .returned (.iface 23 (.int .i64 k)) ∧ w' = w := by
  go_enter Tryd.func221, Tryd.ntmps221
  go_wp2
  go_ret
  exact ⟨rfl, rfl⟩

set_option maxHeartbeats 4000000 in
set_option maxRecDepth 100000 in
theorem as_at (e : Int) (b : Nat) (t : Addr) (old : Value) (w : World) (hg : w.cell? ⟨0, 0, none⟩ = some (.iface 250 (.agg #[.pointer (some ⟨8, 27, none⟩)]))) (ht0 : w.cell? t = some old) (hf0 : w.frozen? t = false) (hb : w.cell? ⟨b, 0, none⟩ = some (.int .i64 e)) :
    Calls Tryd.prog 138 #[.iface 124 (.pointer (some ⟨b, 0, none⟩)), .iface 208 (.pointer (some t))] w fun ev w' => ev = .returned (.bool true) ∧ w' = ((((w.alloc (.cells #[.pointer (some t)] 208)).alloc (.cells #[.pointer (some ⟨8, 208, none⟩), .pointer (some ⟨w.heap.size, 0, none⟩), .int .u64 150] 227)).alloc (.cells #[.pointer (some ⟨8, 208, none⟩), .pointer (some ⟨w.heap.size, 0, none⟩), .int .u64 150] 227)).alloc (.cells #[.int .i64 e] 23)).setCell t (.int .i64 e) := by
  have h6 := @run_callFunc_extern Tryd.prog 161 _ (fun args => ReflectliteValue.unpack (args.getD 0 (.tuple #[]))) Tryd.func161 (by kernel_rfl) (by kernel_rfl) (by kernel_rfl) (by kernel_rfl)
  have h7 := @run_callFunc_extern Tryd.prog 162 _ (ReflectliteValue.methodAny (ReflectliteValue.valueError "reflectlite.Value.Type" 0) (fun t _ _ _ => ReflectliteType.toType t)) Tryd.func162 (by kernel_rfl) (by kernel_rfl) (by kernel_rfl) (by kernel_rfl)
  have h8 := @run_callFunc_extern Tryd.prog 163 _ (ReflectliteValue.method (ReflectliteValue.valueError "reflectlite.Value.IsNil" 0) ReflectliteValue.isNil) Tryd.func163 (by kernel_rfl) (by kernel_rfl) (by kernel_rfl) (by kernel_rfl)
  have h27 := @run_callFunc_extern Tryd.prog 213 _ (ReflectliteType.abiMethod fun t => do pure (.int .u8 (← Rtype.kind t))) Tryd.func213 (by kernel_rfl) (by kernel_rfl) (by kernel_rfl) (by kernel_rfl)
  have h37 := @run_callFunc_extern Tryd.prog 229 _ (ReflectliteType.method ReflectliteType.elem) Tryd.func229 (by kernel_rfl) (by kernel_rfl) (by kernel_rfl) (by kernel_rfl)
  have h38 := @run_callFunc_extern Tryd.prog 230 _ (ReflectliteType.relation "Implements" ReflectliteType.implements_) Tryd.func230 (by kernel_rfl) (by kernel_rfl) (by kernel_rfl) (by kernel_rfl)
  have h10 := @run_callFunc_extern Tryd.prog 183 _ ReflectliteType.typeOf Tryd.func183 (by kernel_rfl) (by kernel_rfl) (by kernel_rfl) (by kernel_rfl)
  have h35 := @run_callFunc_extern Tryd.prog 227 _ (ReflectliteType.relation "AssignableTo" ReflectliteType.assignableTo) Tryd.func227 (by kernel_rfl) (by kernel_rfl) (by kernel_rfl) (by kernel_rfl)
  have h11 := @run_callFunc_extern Tryd.prog 184 _ (ReflectliteValue.method (ReflectliteValue.valueError "reflectlite.Value.Elem" 0) ReflectliteValue.elem) Tryd.func184 (by kernel_rfl) (by kernel_rfl) (by kernel_rfl) (by kernel_rfl)
  have h12 := @run_callFunc_extern Tryd.prog 185 _ ReflectliteValue.set Tryd.func185 (by kernel_rfl) (by kernel_rfl) (by kernel_rfl) (by kernel_rfl)
  have tA := at_typeOf
  have aA := at_assignable
  have mU := at_method
  have tO := as_typeOf25
  have mA := as_methodAssignableTo
  have a25 := as_assignable25
  have v25 := as_valueOf25
  have f6 := as_valueOf27
  have f7 := as_type27
  have mK := as_methodKind
  have mE := as_methodElem
  have mI := as_methodImplements
  have k27 := as_kind27
  have k25 := as_kind25
  have e27 := as_elem27
  have i25 := as_implements25
  have n8 := as_isNil27 ⟨w.heap.size, 0, none⟩ t ((w.alloc (.cells #[.pointer (some t)] 208)).alloc (.cells #[.pointer (some ⟨8, 208, none⟩), .pointer (some ⟨w.heap.size, 0, none⟩), .int .u64 150] 227)) (by simp)
  have hlt : 0 < w.heap.size := World.block_lt_of_cell? w _ hg
  have hg2 : ((w.alloc (.cells #[.pointer (some t)] 208)).alloc (.cells #[.pointer (some ⟨8, 208, none⟩), .pointer (some ⟨w.heap.size, 0, none⟩), .int .u64 150] 227)).cell? ⟨0, 0, none⟩ = some (.iface 250 (.agg #[.pointer (some ⟨8, 27, none⟩)])) := by
    rw [World.cell?_alloc_lt _ _ ⟨0, 0, none⟩ (by simp <;> omega), World.cell?_alloc_lt _ _ ⟨0, 0, none⟩ hlt]; exact hg
  have htl : t.block < w.heap.size := by
    rcases Nat.lt_or_ge t.block w.heap.size with h | h
    · exact h
    · simp [World.cell?, Array.getElem?_eq_none h] at ht0
  have hbl : b < w.heap.size := by
    rcases Nat.lt_or_ge b w.heap.size with h | h
    · exact h
    · simp [World.cell?, Array.getElem?_eq_none h] at hb
  have hb3 : (((w.alloc (.cells #[.pointer (some t)] 208)).alloc (.cells #[.pointer (some ⟨8, 208, none⟩), .pointer (some ⟨w.heap.size, 0, none⟩), .int .u64 150] 227)).alloc (.cells #[.pointer (some ⟨8, 208, none⟩), .pointer (some ⟨w.heap.size, 0, none⟩), .int .u64 150] 227)).cell? ⟨b, 0, none⟩ = some (.int .i64 e) := by
    rw [World.cell?_alloc_lt _ _ ⟨b, 0, none⟩ (by simp <;> omega), World.cell?_alloc_lt _ _ ⟨b, 0, none⟩ (by simp <;> omega), World.cell?_alloc_lt _ _ ⟨b, 0, none⟩ hbl]; exact hb
  have el := as_elemV27 ⟨w.heap.size, 0, none⟩ t (((w.alloc (.cells #[.pointer (some t)] 208)).alloc (.cells #[.pointer (some ⟨8, 208, none⟩), .pointer (some ⟨w.heap.size, 0, none⟩), .int .u64 150] 227)).alloc (.cells #[.pointer (some ⟨8, 208, none⟩), .pointer (some ⟨w.heap.size, 0, none⟩), .int .u64 150] 227)) (by rw [World.cell?_alloc_lt _ _ ⟨w.heap.size, 0, none⟩ (by simp <;> omega)]; simp)
  have st := as_set25 t ⟨w.heap.size + 1 + 1 + 1, 0, none⟩ e old ((((w.alloc (.cells #[.pointer (some t)] 208)).alloc (.cells #[.pointer (some ⟨8, 208, none⟩), .pointer (some ⟨w.heap.size, 0, none⟩), .int .u64 150] 227)).alloc (.cells #[.pointer (some ⟨8, 208, none⟩), .pointer (some ⟨w.heap.size, 0, none⟩), .int .u64 150] 227)).alloc (.cells #[.int .i64 e] 23))
    (by rw [World.cell?_alloc_at _ _ _ _ (by simp)]; rfl)
    (by rw [World.cell?_alloc_lt _ _ t (by simp <;> omega), World.cell?_alloc_lt _ _ t (by simp <;> omega), World.cell?_alloc_lt _ _ t (by simp <;> omega), World.cell?_alloc_lt _ _ t htl]; exact ht0)
    (by rw [World.frozen?_alloc_old _ _ t (by simp <;> omega), World.frozen?_alloc_old _ _ t (by simp <;> omega), World.frozen?_alloc_old _ _ t (by simp <;> omega), World.frozen?_alloc_old _ _ t (Nat.ne_of_lt htl)]; exact hf0)
  go_enter Tryd.func138, Tryd.ntmps138
  go_wp2
  refine wp_loop_rounds 2 ?_
  rw [rounds_succ]
  go_wp2
  rw [rounds_succ]
  go_wp2
  go_ret
  exact ⟨rfl, rfl⟩
end Go.Proofs.YtedcibjnnihhfaaDoor
