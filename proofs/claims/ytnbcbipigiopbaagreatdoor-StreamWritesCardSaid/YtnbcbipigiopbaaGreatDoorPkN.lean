/-
  Arguments of type api.Pair and []api.Pair, opened.
-/
import Derived.Test.YtnbcbipigiopbaaGreatDoorPkA
import Derived.Test.YtnbcbipigiopbaaGreatDoorPkB
import Derived.ChangeKeysEq
import Derived.Laws.AppendOwn
import Derived.Laws.OwnMore
import Derived.Test.YtnbcbipigiopbaaGreatDoorPkC
import Derived.LaidEql
import Derived.Stop.Asserts
import Derived.RowKitTokens
import Derived.Test.YtnbcbipigiopbaaGreatDoorPkM
import Derived.Test.YtnbcbipigiopbaaGreatDoorPkH
namespace Go.Proofs.YtnbcbipigiopbaaGreatDoor
open Go.ChangeShapes Go.WideShapes Go.ChangeAt Go.RowKit Go.ChangeMaps

theorem pcells_pair : Tryz.prog.cellsOf 53 = 2 := by kernel_rfl
theorem pbytes_pair : Tryz.prog.bytesOf 53 = 32 := by kernel_rfl
theorem pcells_string : Tryz.prog.cellsOf 9 = 1 := by kernel_rfl

set_option maxRecDepth 100000 in
theorem rd_pair {W : World} {cs : List Value} (h : Rd W 53 cs) : ∃ k v : ByteArray, cs = [.string k, .string v] ∧ k.size ≤ 140737488351232 ∧ v.size ≤ 140737488351232 := by
  obtain ⟨hl, hg⟩ := h.struct Tryz.underlying53
  rw [pcells_pair] at hl
  match cs, hl with
  | [c0, c1], _ =>
    have g0 := hg 0 _ rfl
    have g1 := hg 1 _ rfl
    simp [pcells_string] at g0 g1
    obtain ⟨n0, e0, b0⟩ := g0.string Tryz.underlying9
    obtain ⟨n1, e1, b1⟩ := g1.string Tryz.underlying9
    simp at e0 e1
    subst e0 e1
    exact ⟨_, _, rfl, b0, b1⟩

set_option maxRecDepth 100000 in
theorem arg_pair {H : Type} {enc : TypeId × Value → H} {W : World} {base : Nat} {v : Value} {d : DataW H} {p : List MemPlace} {ts : List TypeId} {ds : List (DataW H)} {j : Nat}
    (hv : Value.okWide Tryz.prog W .any base 53 v) (h : DataW.Trod enc Tryz.prog W 0 (fun _ => true) true 53 v d p)
    (hsz : (DataW.weightsEach Tryz.prog ts ds).all (· ≤ reachBytes) = true) (ht : ts[j]? = some 53) (hd : ds[j]? = some d) :
    ∃ (k x : ByteArray), v = .agg #[.string k, .string x] ∧ k.size ≤ 140737488351232 ∧ x.size ≤ 140737488351232 := by
  obtain ⟨cs, rfl, _⟩ := okWide_struct Tryz.underlying53 hv
  obtain ⟨k, x, hcs, hb⟩ := rd_pair (Rd.ofArg h hsz ht hd)
  refine ⟨k, x, ?_, hb⟩
  obtain ⟨l⟩ := cs
  simp [Value.cells] at hcs
  rw [hcs]

/-- The slice value v holds n pairs. -/
def IsPairs (w : World) (v : Value) (n : Nat) (K X : Nat → ByteArray) : Prop :=
  ((∃ a c, v = .slice a 0 c) ∧ n = 0) ∨ ∃ (b off cap : Nat), v = .slice (some ⟨b, off, none⟩) n cap ∧ n ≤ 4398046511100 ∧
    ∀ k, k < n → (K k).size ≤ 140737488351232 ∧ (X k).size ≤ 140737488351232 ∧ w.cell? ⟨b, off + k * 2, none⟩ = some (.string (K k)) ∧ w.cell? ⟨b, off + k * 2 + 1, none⟩ = some (.string (X k))
theorem IsPairs.ext {w w' : World} {v : Value} {n : Nat} {K X : Nat → ByteArray} (h : IsPairs w v n K X) (hE : Ext w w') : IsPairs w' v n K X :=
  h.imp id fun ⟨b, off, cap, hv, hn, hc⟩ => ⟨b, off, cap, hv, hn, fun k hk => ⟨(hc k hk).1, (hc k hk).2.1, hE.cell (hc k hk).2.2.1, hE.cell (hc k hk).2.2.2⟩⟩
theorem addp_plain (b off i : Nat) : (⟨b, off, none⟩ : Addr).add i = ⟨b, off + i, none⟩ := by
  unfold Addr.add
  split <;> simp_all

set_option maxRecDepth 100000 in
theorem arg_pairs {H : Type} {enc : TypeId × Value → H} {W : World} {base : Nat} {v : Value} {d : DataW H} {p : List MemPlace} {ts : List TypeId} {ds : List (DataW H)} {j : Nat}
    (hv : Value.okWide Tryz.prog W .any base 29 v) (h : DataW.Trod enc Tryz.prog W 0 (fun _ => true) true 29 v d p)
    (hsz : (DataW.weightsEach Tryz.prog ts ds).all (· ≤ reachBytes) = true) (ht : ts[j]? = some 29) (hd : ds[j]? = some d) :
    ∃ (n : Nat) (K X : Nat → ByteArray), IsPairs W v n K X := by
  obtain ⟨a, len, cap, rfl⟩ := okWide_slice Tryz.underlying29 hv
  rcases (Rd.ofArg h hsz ht hd).slice Tryz.underlying29 with h0 | ⟨x, l, c, hcs, hlc, hc, hb, hi⟩
  · simp [Value.cells] at h0
    obtain ⟨rfl, rfl, rfl⟩ := h0
    exact ⟨0, fun _ => ⟨#[]⟩, fun _ => ⟨#[]⟩, .inl ⟨⟨_, _, rfl⟩, rfl⟩⟩
  · simp [Value.cells] at hcs
    obtain ⟨rfl, rfl, rfl⟩ := hcs
    rw [pcells_pair] at hi
    rw [pbytes_pair] at hb
    have hq : ∀ i : Nat, ∃ q : ByteArray × ByteArray, i < len → q.1.size ≤ 140737488351232 ∧ q.2.size ≤ 140737488351232 ∧ W.cell? (x.add (i * 2)) = some (.string q.1) ∧ W.cell? (x.add (i * 2 + 1)) = some (.string q.2) := fun i => by
      by_cases hil : i < len
      · obtain ⟨ecs, _, hat, hr⟩ := hi i hil
        obtain ⟨k, y, rfl, b0, b1⟩ := rd_pair hr
        exact ⟨(k, y), fun _ => ⟨b0, b1, by simpa using hat 0 (by omega), by simpa using hat 1 (by omega)⟩⟩
      · exact ⟨(⟨#[]⟩, ⟨#[]⟩), fun h => absurd h hil⟩
    obtain ⟨f, hf⟩ := Classical.axiomOfChoice hq
    obtain ⟨b, off, spot⟩ := x
    by_cases hl0 : len = 0
    · subst hl0
      exact ⟨0, fun _ => ⟨#[]⟩, fun _ => ⟨#[]⟩, .inl ⟨⟨_, _, rfl⟩, rfl⟩⟩
    · have hspot : spot = none := by simpa [Addr.add] using World.cell?_spot (hf 0 (by omega)).2.2.1
      subst hspot
      exact ⟨len, fun i => (f i).1, fun i => (f i).2, .inr ⟨b, off, cap, rfl, by omega, fun k hk => by
        have := hf k hk
        rw [addp_plain, addp_plain, ← Nat.add_assoc] at this
        exact this⟩⟩
end Go.Proofs.YtnbcbipigiopbaaGreatDoor
/-
  Slices of pairs as lists of pairs; the law's samePairs. No conditions but a bound of the lists' length.
-/
namespace Go.Proofs.YtnbcbipigiopbaaGreatDoor
open Go.ChangeShapes Go.WideShapes Go.ChangeAt Go.RowKit Go.Joins

def cellsB : List (ByteArray × ByteArray) → List Value
  | [] => []
  | (k, v) :: t => .string k :: .string v :: cellsB t
theorem cellsB_append (a b : List (ByteArray × ByteArray)) : cellsB (a ++ b) = cellsB a ++ cellsB b := by
  induction a with
  | nil => rfl
  | cons x t ih => obtain ⟨k, v⟩ := x; simp [cellsB, ih]
theorem cellsB_len (L : List (ByteArray × ByteArray)) : (cellsB L).length = L.length * 2 := by
  induction L with
  | nil => rfl
  | cons x t ih => obtain ⟨k, v⟩ := x; simp [cellsB, ih]; omega
theorem cellsB_at : ∀ (L : List (ByteArray × ByteArray)) (k : Nat) (h : k < L.length), (cellsB L)[k * 2]? = some (.string L[k].1) ∧ (cellsB L)[k * 2 + 1]? = some (.string L[k].2)
  | (a, b) :: t, 0, _ => ⟨rfl, rfl⟩
  | (a, b) :: t, k + 1, h => by
    have ih := cellsB_at t k (by simpa using h)
    have e1 : (k + 1) * 2 = k * 2 + 1 + 1 := by omega
    rw [e1]
    exact ⟨ih.1, ih.2⟩

/-- The slice value v holds the pairs L. -/
def IsPrs (w : World) (v : Value) (L : List (ByteArray × ByteArray)) : Prop :=
  ((∃ a c, v = .slice a 0 c) ∧ L = []) ∨ ∃ (b off cap : Nat), v = .slice (some ⟨b, off, none⟩) L.length cap ∧
    ∀ k (h : k < L.length), w.cell? ⟨b, off + k * 2, none⟩ = some (.string L[k].1) ∧ w.cell? ⟨b, off + k * 2 + 1, none⟩ = some (.string L[k].2)
theorem IsPrs.ext {w w' : World} {v : Value} {L : List (ByteArray × ByteArray)} (h : IsPrs w v L) (hE : Ext w w') : IsPrs w' v L :=
  h.imp id fun ⟨b, off, cap, hv, hc⟩ => ⟨b, off, cap, hv, fun k hk => ⟨hE.cell (hc k hk).1, hE.cell (hc k hk).2⟩⟩
theorem infoPair : (Tryz.prog.info? 53).map (fun i => (i.zero, i.size, i.bytes)) = some (some (.agg #[.string ByteArray.empty, .string ByteArray.empty]), 2, 32) := by kernel_rfl
theorem ownP_ne {w : World} {base : Nat} {e : TypeId} {size : Nat} {v : Value} {n : Nat} {xs : List Value} (h : w.ownsRow base e size v (n + 1) xs) : ∃ g cap, v = .slice (some ⟨g, 0, none⟩) (n + 1) cap ∧ base ≤ g ∧ n + 1 ≤ cap ∧ cap ≤ maxLen := by
  obtain ⟨_, ⟨_, h0⟩ | ⟨g, cap, cur, hv, hb, hh, hn, hm, hs, ht⟩⟩ := h
  · omega
  · exact ⟨g, cap, hv, hb, hn, hm⟩
theorem ownP_open {w : World} {base : Nat} {e : TypeId} {size : Nat} {v : Value} {n : Nat} {xs : List Value} (h : w.ownsRow base e size v n xs) : ∃ oa cap, v = .slice oa n cap := by
  obtain ⟨_, ⟨hv, h0⟩ | ⟨g, cap, cur, hv, hb, hh, hn, hm, hs, ht⟩⟩ := h
  · subst h0; exact ⟨_, _, hv⟩
  · exact ⟨_, _, hv⟩
theorem ownP_ext {w w' : World} {base : Nat} {t : TypeId} {sz : Nat} {v : Value} {n : Nat} {xs : List Value} (h : w.ownsRow base t sz v n xs) (hE : Ext w w') : w'.ownsRow base t sz v n xs :=
  h.kept (row := none) ⟨hE.os, hE.tape, hE.output, hE.size, fun b hb _ => hE.block b hb⟩ (by cases v.ownBlock <;> simp)
theorem ownP_ge {w : World} {base : Nat} {t : TypeId} {sz : Nat} {v : Value} {n : Nat} {xs : List Value} (h : w.ownsRow base t sz v n xs) {B : Nat} (hB : B ≤ base) : ∀ k, v.ownBlock = some k → B ≤ k := fun k hk => Nat.le_trans hB (World.ownsRow.lt h k hk).1
theorem IsPrs.ofOwns {w : World} {base : Nat} {v : Value} {L : List (ByteArray × ByteArray)} (h : w.ownsRow base 53 2 v L.length (cellsB L)) : IsPrs w v L := by
  obtain ⟨_, ⟨hv, hn⟩ | ⟨g, cap, cur, hv, hb, hh, hn, hm, hs, ht⟩⟩ := h
  · exact .inl ⟨⟨none, 0, hv⟩, by simpa using hn⟩
  · have ho : w.ownsRow base 53 2 (.slice (some ⟨g, 0, none⟩) L.length cap) L.length (cellsB L) := ⟨cellsB_len L, .inr ⟨g, cap, cur, rfl, hb, hh, hn, hm, hs, ht⟩⟩
    refine .inr ⟨g, 0, cap, hv, fun k hk => ?_⟩
    have := cellsB_at L k hk
    rw [Nat.zero_add, ho.cellAt _ (by omega), ho.cellAt _ (by omega)]
    exact this
/-- '==' on pairs that are alike. -/
theorem eqlPrd (d : Nat) (a b : ByteArray) (w : World) (e : ∀ x : ByteArray, (Op.equalIn d 9 (.string x) (.string x)).run Tryz.prog w = .ok true w) : (Op.equalIn (d + 1) 53 (.agg #[.string a, .string b]) (.agg #[.string a, .string b])).run Tryz.prog w = .ok true w := by
  simp only [Op.equalIn, Sem.run_bind, run_underlying Tryz.underlying53, Result.andThen_ok]
  simp [part, isAgg, run_underlying Tryz.underlying9, e]
theorem eqlPr (a b : ByteArray) (w : World) : (Op.equalIn 10000 53 (.agg #[.string a, .string b]) (.agg #[.string a, .string b])).run Tryz.prog w = .ok true w :=
  eqlPrd 9999 a b w fun x => by
    rw [show (9999 : Nat) = 9998 + 1 from rfl, run_equalIn_string w 9998 _ _ _ Tryz.underlying9]; simp
end Go.Proofs.YtnbcbipigiopbaaGreatDoor
/-
  errors.As at an error with a place (*api.At). Then Tell, Place and 'placed'.
-/
namespace Go.Proofs.YtnbcbipigiopbaaGreatDoor
open Go.RowKit Go.Extern.Stop Go.Stop Go.Extern

theorem at_typeOf (v : Value) (w : World) : (ReflectliteType.typeOf #[.iface 65 v]).run Tryz.prog w = .ok (.iface 197 (.agg #[.pointer (some ⟨7, 65, none⟩)])) w := by kernel_rfl
theorem at_assignable (w : World) : (ReflectliteType.relation "AssignableTo" ReflectliteType.assignableTo #[.agg #[.pointer (some ⟨7, 65, none⟩)], .iface 197 (.agg #[.pointer (some ⟨7, 33, none⟩)])]).run Tryz.prog w = .ok (.bool false) w := by kernel_rfl
@[go_sem] theorem at_no_as (v : Value) (w : World) : (Instr.typeAssert (.iface 65 v) 39 202 true).run Tryz.prog w = .ok (.tuple #[.nilIface, .bool false]) w :=
  run_typeAssert_lacksB Tryz.underlying202 (by kernel_rfl) (by kernel_rfl) v _ w
@[go_sem] theorem at_unwrap (v : Value) (w : World) : (Instr.typeAssert (.iface 65 v) 39 114 true).run Tryz.prog w = .ok (.tuple #[.iface 65 v, .bool true]) w :=
  run_typeAssert_hasB Tryz.underlying114 (by kernel_rfl) v _ w
theorem at_method (v : Value) (w : World) : (Go.method 368 65 v "Unwrap").run Tryz.prog w = .ok (210, v) w := by kernel_rfl

/-- (*At).Unwrap: its Errno. -/
theorem unwrap_at (k : Int) (b : Nat) (w : World) (h : w.cell? ⟨b, 0, none⟩ = some (.int .i64 k)) : Calls Tryz.prog 210 #[.pointer (some ⟨b, 0, none⟩)] w fun e w' => e = .returned (.iface 33 (.int .i64 k)) ∧ w' = w := by
  go_enter Tryz.func210, Tryz.ntmps210
  go_wp2
  go_ret
  exact ⟨rfl, rfl⟩

set_option maxHeartbeats 4000000 in
set_option maxRecDepth 100000 in
theorem as_at (e : Int) (b : Nat) (t : Addr) (old : Value) (w : World) (hg : w.cell? ⟨0, 0, none⟩ = some (.iface 197 (.agg #[.pointer (some ⟨7, 39, none⟩)]))) (ht0 : w.cell? t = some old) (hf0 : w.frozen? t = false) (hb : w.cell? ⟨b, 0, none⟩ = some (.int .i64 e)) :
    Calls Tryz.prog 58 #[.iface 65 (.pointer (some ⟨b, 0, none⟩)), .iface 109 (.pointer (some t))] w fun ev w' => ev = .returned (.bool true) ∧ w' = ((((w.alloc (.cells #[.pointer (some t)] 109)).alloc (.cells #[.pointer (some ⟨7, 109, none⟩), .pointer (some ⟨w.heap.size, 0, none⟩), .int .u64 150] 158)).alloc (.cells #[.pointer (some ⟨7, 109, none⟩), .pointer (some ⟨w.heap.size, 0, none⟩), .int .u64 150] 158)).alloc (.cells #[.int .i64 e] 33)).setCell t (.int .i64 e) := by
  have h6 := @run_callFunc_extern Tryz.prog 110 _ (fun args => ReflectliteValue.unpack (args.getD 0 (.tuple #[]))) Tryz.func110 (by kernel_rfl) (by kernel_rfl) (by kernel_rfl) (by kernel_rfl)
  have h7 := @run_callFunc_extern Tryz.prog 111 _ (ReflectliteValue.methodAny (ReflectliteValue.valueError "reflectlite.Value.Type" 0) (fun t _ _ _ => ReflectliteType.toType t)) Tryz.func111 (by kernel_rfl) (by kernel_rfl) (by kernel_rfl) (by kernel_rfl)
  have h8 := @run_callFunc_extern Tryz.prog 112 _ (ReflectliteValue.method (ReflectliteValue.valueError "reflectlite.Value.IsNil" 0) ReflectliteValue.isNil) Tryz.func112 (by kernel_rfl) (by kernel_rfl) (by kernel_rfl) (by kernel_rfl)
  have h27 := @run_callFunc_extern Tryz.prog 204 _ (ReflectliteType.abiMethod fun t => do pure (.int .u8 (← Rtype.kind t))) Tryz.func204 (by kernel_rfl) (by kernel_rfl) (by kernel_rfl) (by kernel_rfl)
  have h37 := @run_callFunc_extern Tryz.prog 219 _ (ReflectliteType.method ReflectliteType.elem) Tryz.func219 (by kernel_rfl) (by kernel_rfl) (by kernel_rfl) (by kernel_rfl)
  have h38 := @run_callFunc_extern Tryz.prog 220 _ (ReflectliteType.relation "Implements" ReflectliteType.implements_) Tryz.func220 (by kernel_rfl) (by kernel_rfl) (by kernel_rfl) (by kernel_rfl)
  have h10 := @run_callFunc_extern Tryz.prog 145 _ ReflectliteType.typeOf Tryz.func145 (by kernel_rfl) (by kernel_rfl) (by kernel_rfl) (by kernel_rfl)
  have h35 := @run_callFunc_extern Tryz.prog 217 _ (ReflectliteType.relation "AssignableTo" ReflectliteType.assignableTo) Tryz.func217 (by kernel_rfl) (by kernel_rfl) (by kernel_rfl) (by kernel_rfl)
  have h11 := @run_callFunc_extern Tryz.prog 146 _ (ReflectliteValue.method (ReflectliteValue.valueError "reflectlite.Value.Elem" 0) ReflectliteValue.elem) Tryz.func146 (by kernel_rfl) (by kernel_rfl) (by kernel_rfl) (by kernel_rfl)
  have h12 := @run_callFunc_extern Tryz.prog 147 _ ReflectliteValue.set Tryz.func147 (by kernel_rfl) (by kernel_rfl) (by kernel_rfl) (by kernel_rfl)
  have tA := at_typeOf
  have aA := at_assignable
  have mU := at_method
  have tO := as_typeOf25
  have mA := as_methodAssignableTo
  have a25 := as_assignable25
  have v25 := as_valueOf25
  have f6 := as_valueOf27
  have f7 := as_type27
  have mK := as_methodKind
  have mE := as_methodElem
  have mI := as_methodImplements
  have k27 := as_kind27
  have k25 := as_kind25
  have e27 := as_elem27
  have i25 := as_implements25
  have n8 := as_isNil27 ⟨w.heap.size, 0, none⟩ t ((w.alloc (.cells #[.pointer (some t)] 109)).alloc (.cells #[.pointer (some ⟨7, 109, none⟩), .pointer (some ⟨w.heap.size, 0, none⟩), .int .u64 150] 158)) (by simp)
  have hlt : 0 < w.heap.size := World.block_lt_of_cell? w _ hg
  have hg2 : ((w.alloc (.cells #[.pointer (some t)] 109)).alloc (.cells #[.pointer (some ⟨7, 109, none⟩), .pointer (some ⟨w.heap.size, 0, none⟩), .int .u64 150] 158)).cell? ⟨0, 0, none⟩ = some (.iface 197 (.agg #[.pointer (some ⟨7, 39, none⟩)])) := by
    rw [World.cell?_alloc_lt _ _ ⟨0, 0, none⟩ (by simp <;> omega), World.cell?_alloc_lt _ _ ⟨0, 0, none⟩ hlt]; exact hg
  have htl : t.block < w.heap.size := by
    rcases Nat.lt_or_ge t.block w.heap.size with h | h
    · exact h
    · simp [World.cell?, Array.getElem?_eq_none h] at ht0
  have hbl : b < w.heap.size := by
    rcases Nat.lt_or_ge b w.heap.size with h | h
    · exact h
    · simp [World.cell?, Array.getElem?_eq_none h] at hb
  have hb3 : (((w.alloc (.cells #[.pointer (some t)] 109)).alloc (.cells #[.pointer (some ⟨7, 109, none⟩), .pointer (some ⟨w.heap.size, 0, none⟩), .int .u64 150] 158)).alloc (.cells #[.pointer (some ⟨7, 109, none⟩), .pointer (some ⟨w.heap.size, 0, none⟩), .int .u64 150] 158)).cell? ⟨b, 0, none⟩ = some (.int .i64 e) := by
    rw [World.cell?_alloc_lt _ _ ⟨b, 0, none⟩ (by simp <;> omega), World.cell?_alloc_lt _ _ ⟨b, 0, none⟩ (by simp <;> omega), World.cell?_alloc_lt _ _ ⟨b, 0, none⟩ hbl]; exact hb
  have el := as_elemV27 ⟨w.heap.size, 0, none⟩ t (((w.alloc (.cells #[.pointer (some t)] 109)).alloc (.cells #[.pointer (some ⟨7, 109, none⟩), .pointer (some ⟨w.heap.size, 0, none⟩), .int .u64 150] 158)).alloc (.cells #[.pointer (some ⟨7, 109, none⟩), .pointer (some ⟨w.heap.size, 0, none⟩), .int .u64 150] 158)) (by rw [World.cell?_alloc_lt _ _ ⟨w.heap.size, 0, none⟩ (by simp <;> omega)]; simp)
  have st := as_set25 t ⟨w.heap.size + 1 + 1 + 1, 0, none⟩ e old ((((w.alloc (.cells #[.pointer (some t)] 109)).alloc (.cells #[.pointer (some ⟨7, 109, none⟩), .pointer (some ⟨w.heap.size, 0, none⟩), .int .u64 150] 158)).alloc (.cells #[.pointer (some ⟨7, 109, none⟩), .pointer (some ⟨w.heap.size, 0, none⟩), .int .u64 150] 158)).alloc (.cells #[.int .i64 e] 33))
    (by rw [World.cell?_alloc_at _ _ _ _ (by simp)]; rfl)
    (by rw [World.cell?_alloc_lt _ _ t (by simp <;> omega), World.cell?_alloc_lt _ _ t (by simp <;> omega), World.cell?_alloc_lt _ _ t (by simp <;> omega), World.cell?_alloc_lt _ _ t htl]; exact ht0)
    (by rw [World.frozen?_alloc_old _ _ t (by simp <;> omega), World.frozen?_alloc_old _ _ t (by simp <;> omega), World.frozen?_alloc_old _ _ t (by simp <;> omega), World.frozen?_alloc_old _ _ t (Nat.ne_of_lt htl)]; exact hf0)
  go_enter Tryz.func58, Tryz.ntmps58
  go_wp2
  refine wp_loop_rounds 2 ?_
  rw [rounds_succ]
  go_wp2
  rw [rounds_succ]
  go_wp2
  go_ret
  exact ⟨rfl, rfl⟩
end Go.Proofs.YtnbcbipigiopbaaGreatDoor
/-
  Tell, Place and 'placed' at an error with a place (*api.At) (not built yet).
-/
namespace Go.Proofs.YtnbcbipigiopbaaGreatDoor
open Go.RowKit Go.Stop

/-- An error with a place. -/
def IsAt (w : World) (b : Nat) (k pl : Int) : Prop := w.cell? ⟨b, 0, none⟩ = some (.int .i64 k) ∧ w.cell? ⟨b, 1, none⟩ = some (.int .i64 pl)
theorem IsAt.ext {w w' : World} {b : Nat} {k pl : Int} (h : IsAt w b k pl) (e : Ext w w') : IsAt w' b k pl := ⟨e.cell h.1, e.cell h.2⟩

set_option maxHeartbeats 4000000 in
set_option maxRecDepth 100000 in
theorem tell_at (k pl : Int) (b : Nat) (w : World) (hg : HasHandle w) (h : IsAt w b k pl) : Calls Tryz.prog 27 #[.iface 65 (.pointer (some ⟨b, 0, none⟩))] w fun e w' => e = .returned (.int .i64 k) ∧ Ext w w' := by
  have hx : Ext w (w.alloc (.cells #[.int .i64 0] 33)) := Ext.alloc (Ext.refl w) _
  have hA : HasHandle (w.alloc (.cells #[.int .i64 0] 33)) := hg.ext hx
  have hB := (h.ext hx).1
  go_enter Tryz.func27, Tryz.ntmps27
  go_wp2_with ((refine (as_at k b _ (.int .i64 0) _ hA (by simp) (by simp) hB).mono ?_); rintro e w' ⟨rfl, rfl⟩)
  go_ret
  refine ⟨rfl, (by show Below _ _ _; repeat' (first | (with_reducible exact Below.refl _ _) | (with_reducible assumption) | (with_reducible refine belowDrewN ?_ _) | (with_reducible refine Below.alloc ?_ ?_ _) | (with_reducible refine Below.drew ?_) | (with_reducible refine Below.setCell ?_ ?_ _) | go_size))⟩

set_option maxRecDepth 100000 in
theorem place_at (k pl : Int) (b : Nat) (w : World) (hg : HasHandle w) (h : IsAt w b k pl) : Calls Tryz.prog 29 #[.iface 65 (.pointer (some ⟨b, 0, none⟩))] w fun e w' => e = .returned (.tuple #[.int .i64 k, .int .i64 pl]) ∧ Ext w w' := by
  go_enter Tryz.func29, Tryz.ntmps29
  go_wp2_with ((refine (tell_at k pl b _ hg h).mono ?_); rintro e w' ⟨rfl, hx⟩)
  have h1 := (h.ext hx).1
  have h2 := (h.ext hx).2
  have lb : b < w'.heap.size := World.block_lt_of_cell? w' _ h1
  refine wp_loop_rounds 1 ?_
  rw [rounds_succ]
  go_wp2_with fail
  refine wp_region_det (Stood _) (by kernel_rfl) (by kernel_rfl) (Stood.start _) ?_
  repeat (first
    | (refine det_skip (by rfl) ?_; simp only [Act.put, List.setIfInBounds_toArray, List.set_cons_zero, List.set_cons_succ])
    | (refine det_op (v := ?_) rfl (by rfl) (fun w' hS => ?_) ?_; rotate_left; (focus (obtain ⟨hcl, hxt⟩ := hS; go_wp2_with (fail); (first | refine ⟨?_, rfl, hcl, hxt⟩ | refine ⟨?_, rfl, Stood.of (hxt.trans (by assumption))⟩); (first | (simp only [List.getElem?_toArray, List.getElem?_cons_succ, List.getElem?_cons_zero]; rfl) | rfl))); simp only [Act.put, List.setIfInBounds_toArray, List.set_cons_zero, List.set_cons_succ]))
  refine det_end ?_
  intro w2 hS
  have hx2 := hS.2
  clear hS
  go_wp2_with fail
  go_ret2
  exact ⟨rfl, hx.trans hx2⟩
end Go.Proofs.YtnbcbipigiopbaaGreatDoor
/-
  An error, with a place or without: Place and 'placed'.
-/
namespace Go.Proofs.YtnbcbipigiopbaaGreatDoor
open Go.RowKit Go.Stop

/-- The value v is the error k (0: none) at the place pl (-1: none). -/
def IsErr (w : World) (v : Value) (k pl : Int) : Prop := (pl = -1 ∧ v = errOf k) ∨ ∃ b : Nat, v = .iface 65 (.pointer (some ⟨b, 0, none⟩)) ∧ IsAt w b k pl
theorem IsErr.ext {w w' : World} {v : Value} {k pl : Int} (h : IsErr w v k pl) (e : Ext w w') : IsErr w' v k pl := h.imp id fun ⟨b, hv, ha⟩ => ⟨b, hv, ha.ext e⟩
theorem place_any (v : Value) (k pl : Int) (w : World) (hg : HasHandle w) (h : IsErr w v k pl) : Calls Tryz.prog 29 #[v] w fun e w' => e = .returned (.tuple #[.int .i64 k, .int .i64 pl]) ∧ Ext w w' := by
  rcases h with ⟨rfl, rfl⟩ | ⟨b, rfl, ha⟩
  · exact place_errOf k w hg
  · exact place_at k pl b w hg ha

set_option maxHeartbeats 1600000 in
set_option maxRecDepth 100000 in
theorem placed_any (v : Value) (k pl e a : Int) (w : World) (hg : HasHandle w) (h : IsErr w v k pl) : Calls Tryz.prog 13 #[v, .agg #[.int .i64 e, .int .i64 a]] w fun x w' => x = .returned (.bool (k == e && pl == a)) ∧ Ext w w' := by
  have C1 := Lib.hid (fun w1 (hE : Ext w w1) => place_any v k pl w1 (hg.ext hE) (h.ext hE))
  have hx0 : Ext w (w.alloc (.cells #[.int .i64 e, .int .i64 a] 35)) := (Ext.refl w).alloc _
  have hcells : ∀ W : World, Ext (w.alloc (.cells #[.int .i64 e, .int .i64 a] 35)) W → W.cell? ⟨w.heap.size, 0, none⟩ = some (.int .i64 e) ∧ W.cell? ⟨w.heap.size, 1, none⟩ = some (.int .i64 a) ∧ w.heap.size < W.heap.size := fun W hW => by
    have h1 := hW.cell (show (w.alloc (.cells #[.int .i64 e, .int .i64 a] 35)).cell? ⟨w.heap.size, 0, none⟩ = some (.int .i64 e) by simp)
    have h2 := hW.cell (show (w.alloc (.cells #[.int .i64 e, .int .i64 a] 35)).cell? ⟨w.heap.size, 1, none⟩ = some (.int .i64 a) by simp)
    exact ⟨h1, h2, World.block_lt_of_cell? W _ h1⟩
  have Hcells := Lib.hid hcells
  clear hcells h
  cases hk : k == e with
  | true =>
    have Hk := Lib.hid hk
    cases hp : pl == a with
    | true =>
      have Hp := Lib.hid hp
      go_enter Tryz.func13, Tryz.ntmps13
      go_wp2_with fail
      refine (C1.out _ hx0).mono ?_; rintro x w1 ⟨rfl, hx1⟩
      obtain ⟨g1, g2, g3⟩ := Hcells.out w1 hx1
      go_wp2_with fail
      go_ret
      exact ⟨ret_bool (by simp), hx0.trans hx1⟩
    | false =>
      have Hp := Lib.hid hp
      go_enter Tryz.func13, Tryz.ntmps13
      go_wp2_with fail
      refine (C1.out _ hx0).mono ?_; rintro x w1 ⟨rfl, hx1⟩
      obtain ⟨g1, g2, g3⟩ := Hcells.out w1 hx1
      go_wp2_with fail
      go_ret
      exact ⟨ret_bool (by simp), hx0.trans hx1⟩
  | false =>
    have Hk := Lib.hid hk
    go_enter Tryz.func13, Tryz.ntmps13
    go_wp2_with fail
    refine (C1.out _ hx0).mono ?_; rintro x w1 ⟨rfl, hx1⟩
    obtain ⟨g1, g2, g3⟩ := Hcells.out w1 hx1
    go_wp2_with fail
    go_ret
    exact ⟨ret_bool (by simp), hx0.trans hx1⟩
theorem placed_same (v : Value) (k pl : Int) (w : World) (hg : HasHandle w) (h : IsErr w v k pl) : Calls Tryz.prog 13 #[v, .agg #[.int .i64 k, .int .i64 pl]] w fun x w' => x = .returned (.bool true) ∧ Ext w w' := by
  have := placed_any v k pl k pl w hg h
  simpa using this
end Go.Proofs.YtnbcbipigiopbaaGreatDoor
/-
  Records, one behind the other: pax.Write and the reference's Records.
-/
namespace Go.Proofs.YtnbcbipigiopbaaGreatDoor
open Go.RowKit

/-- The records of the first pairs. -/
def catR (K X : Nat → ByteArray) : Nat → ByteArray
  | 0 => ⟨#[]⟩
  | k + 1 => catR K X k ++ recB (K k) (X k)
/-- The first pair that is none. -/
def badR (n : Nat) (K X : Nat → ByteArray) : Option Nat := (List.range n).find? fun k => !pairB (K k) (X k)
def wrE (n : Nat) (K X : Nat → ByteArray) : Int := if 20 < n then 4 else if (badR n K X).isSome then 1 else 0
def wrP (n : Nat) (K X : Nat → ByteArray) : Int := if 20 < n then -1 else match badR n K X with | some k => (k : Int) | none => -1
def wrV (n : Nat) (K X : Nat → ByteArray) : ByteArray := if 20 < n then ⟨#[]⟩ else if (badR n K X).isSome then ⟨#[]⟩ else catR K X n
theorem badR_hit {n k : Nat} {K X : Nat → ByteArray} (hk : k < n) (h : ∀ j, j < k → pairB (K j) (X j) = true) (hb : pairB (K k) (X k) = false) : badR n K X = some k := by
  unfold badR
  rw [List.find?_range_eq_some]
  refine ⟨by rw [hb]; rfl, by simpa using hk, fun j hj => by rw [h j hj]; rfl⟩
theorem badR_none {n : Nat} {K X : Nat → ByteArray} (h : ∀ j, j < n → pairB (K j) (X j) = true) : badR n K X = none := by
  unfold badR
  rw [List.find?_eq_none]
  intro x hx
  rw [h x (by simpa using hx)]
  simp
theorem wr_many {n : Nat} (K X : Nat → ByteArray) (h : 20 < n) : wrV n K X = ⟨#[]⟩ ∧ wrE n K X = 4 ∧ wrP n K X = -1 := by
  unfold wrV wrE wrP
  rw [if_pos h, if_pos h, if_pos h]
  exact ⟨rfl, rfl, rfl⟩
theorem wr_bad {n k : Nat} {K X : Nat → ByteArray} (h20 : ¬ 20 < n) (hk : k < n) (h : ∀ j, j < k → pairB (K j) (X j) = true) (hb : pairB (K k) (X k) = false) : wrV n K X = ⟨#[]⟩ ∧ wrE n K X = 1 ∧ wrP n K X = k := by
  unfold wrV wrE wrP
  rw [if_neg h20, if_neg h20, if_neg h20, badR_hit hk h hb]
  exact ⟨rfl, rfl, rfl⟩
theorem wr_good {n : Nat} {K X : Nat → ByteArray} (h20 : ¬ 20 < n) (h : ∀ j, j < n → pairB (K j) (X j) = true) : wrV n K X = catR K X n ∧ wrE n K X = 0 ∧ wrP n K X = -1 := by
  unfold wrV wrE wrP
  rw [if_neg h20, if_neg h20, if_neg h20, badR_none h]
  exact ⟨rfl, rfl, rfl⟩
theorem recB_small {k v : ByteArray} (h : pairB k v = true) : (recB k v).size ≤ 206 := by
  have := pairB_len h
  rw [recB_size k v (by omega)]
  unfold recN dN
  split <;> (try split) <;> omega
theorem catR_size {K X : Nat → ByteArray} : ∀ (k : Nat), (∀ j, j < k → pairB (K j) (X j) = true) → (catR K X k).size ≤ k * 206
  | 0, _ => Nat.le_refl 0
  | k + 1, h => by
    have ih := catR_size k fun j hj => h j (by omega)
    have h1 := recB_small (h k (by omega))
    simp only [catR, ByteArray.size_append]
    rw [Nat.succ_mul]
    omega

theorem bareF_any (e : Int) (w : World) : Calls Tryz.prog 20 #[.int .i64 e] w fun x w' => x = .returned (.agg #[.int .i64 e, .int .i64 (-1)]) ∧ Ext w w' := by
  go_enter Tryz.func20, Tryz.ntmps20
  go_wp2_with fail
  exact bodyPost_ret (v := .agg #[.int .i64 e, .int .i64 (-1)]) (by simp [results, Tryz.results20, go_sem]) rfl ⟨rfl, (by show Below _ _ _; repeat' (first | (with_reducible exact Below.refl _ _) | (with_reducible assumption) | (with_reducible refine belowDrewN ?_ _) | (with_reducible refine Below.alloc ?_ ?_ _) | (with_reducible refine Below.drew ?_) | (with_reducible refine Below.setCell ?_ ?_ _) | go_size))⟩
theorem goodF_any (w : World) : Calls Tryz.prog 25 #[] w fun x w' => x = .returned (.agg #[.int .i64 0, .int .i64 (-1)]) ∧ Ext w w' := by
  go_enter Tryz.func25, Tryz.ntmps25
  go_wp2_with fail
  exact bodyPost_ret (v := .agg #[.int .i64 0, .int .i64 (-1)]) (by simp [results, Tryz.results25, go_sem]) rfl ⟨rfl, (by show Below _ _ _; repeat' (first | (with_reducible exact Below.refl _ _) | (with_reducible assumption) | (with_reducible refine belowDrewN ?_ _) | (with_reducible refine Below.alloc ?_ ?_ _) | (with_reducible refine Below.drew ?_) | (with_reducible refine Below.setCell ?_ ?_ _) | go_size))⟩

theorem allBelow2 {p : Nat → Bool} {k : Nat} (h : ∀ j, j < k → p j = true) (hk : p k = true) : ∀ j, j < k + 1 → p j = true := fun j hj => by
  rcases Nat.lt_succ_iff_lt_or_eq.1 hj with h1 | rfl
  · exact h j h1
  · exact hk
/-- A text and an error come back. -/
def GivesErr (s : ByteArray) (k pl : Int) (w : World) (e : Ending) (w' : World) : Prop := ∃ v, e = .returned (.tuple #[.string s, v]) ∧ IsErr w' v k pl ∧ Ext w w'

/-- All pairs are short. -/
def Short (n : Nat) (K X : Nat → ByteArray) : Prop := ∀ k, k < n → (K k).size + (X k).size ≤ 300

/-- A text and an error come back; where there is no error: nil. -/
def GivesErrN (s : ByteArray) (k pl : Int) (w : World) (e : Ending) (w' : World) : Prop := ∃ v, e = .returned (.tuple #[.string s, v]) ∧ IsErr w' v k pl ∧ (k = 0 → v = .nilIface) ∧ Ext w w'
set_option maxHeartbeats 4000000 in
set_option maxRecDepth 100000 in
theorem paxWrite_n (w : World) (v : Value) (n : Nat) (K X : Nat → ByteArray) (h : IsPairs w v n K X) (hs : Short n K X) (ht : HasPow w) : Calls Tryz.prog 26 #[v] w (GivesErrN (wrV n K X) (wrE n K X) (wrP n K X) w) := by
  by_cases h20 : 20 < n
  · obtain ⟨e1, e2, e3⟩ := wr_many K X h20
    rw [e1, e2, e3]
    have q1 : decide ((20 : Int) < (n : Int)) = true := decide_eq_true (by omega)
    rcases h with ⟨⟨a0, c0, rfl⟩, rfl⟩ | ⟨b, off, cap, rfl, hn, hc⟩
    · omega
    · clear hc hs e1 e2 e3 h20
      go_enter Tryz.func26, Tryz.ntmps26
      go_wp2_with fail
      go_ret2
      exact ⟨_, rfl, .inl ⟨rfl, rfl⟩, fun h => absurd h (by decide), (by show Below _ _ _; repeat' (first | (with_reducible exact Below.refl _ _) | (with_reducible assumption) | (with_reducible refine belowDrewN ?_ _) | (with_reducible refine Below.alloc ?_ ?_ _) | (with_reducible refine Below.drew ?_) | (with_reducible refine Below.setCell ?_ ?_ _) | go_size))⟩
  · have q1 : decide ((20 : Int) < (n : Int)) = false := decide_eq_false (by omega)
    rcases h with ⟨⟨a0, c0, rfl⟩, rfl⟩ | ⟨b, off, cap, rfl, hn, hc⟩
    · obtain ⟨e1, e2, e3⟩ := wr_good (K := K) (X := X) h20 (fun j hj => by omega)
      rw [e1, e2, e3]
      go_enter Tryz.func26, Tryz.ntmps26
      go_wp2_with fail
      refine wp_loop_rounds 1 ?_
      rw [rounds_succ]
      go_wp2_with fail
      go_ret2
      exact ⟨_, rfl, .inl ⟨rfl, rfl⟩, fun _ => rfl, (by show Below _ _ _; repeat' (first | (with_reducible exact Below.refl _ _) | (with_reducible assumption) | (with_reducible refine belowDrewN ?_ _) | (with_reducible refine Below.alloc ?_ ?_ _) | (with_reducible refine Below.drew ?_) | (with_reducible refine Below.setCell ?_ ?_ _) | go_size))⟩
    · have Hc := Lib.hid hc
      have Hs := Lib.hid hs
      clear hc hs
      go_enter Tryz.func26, Tryz.ntmps26
      go_wp2_with fail
      go_loopw [4, 13] (fun o i wr => ∃ k : Nat, k ≤ n ∧ o = .string (catR K X k) ∧ i = .int .i64 (k : Int) ∧ Hid (∀ j, j < k → pairB (K j) (X j) = true) ∧ Ext w wr) (fun _ i _ => n - (intOf i).toNat)
      case atStart => exact ⟨0, Nat.zero_le _, rfl, rfl, Lib.hid (fun j hj => by omega), Ext.refl _⟩
      case round =>
        obtain ⟨k, hk, rfl, rfl, hall, hE⟩ := hrel
        by_cases hlt : k < n
        · obtain ⟨b1, b2, c1, c2⟩ := Hc.out k hlt
          have g1 := hE.cell c1
          have g2 := hE.cell c2
          have hsh := Hs.out k hlt
          have C1 := Lib.hid (fun w => paxRight_any (K k) (X k) (by omega) (by omega) (by omega) w)
          have C2 := Lib.hid (fun w ht => paxText_any (K k) (X k) (by omega) w ht)
          have hbd : Hid (∀ W : World, Ext (wr.alloc (.cells #[.string (K k), .string (X k)] 53)) W → W.cell? ⟨wr.heap.size, 0, none⟩ = some (.string (K k)) ∧ W.cell? ⟨wr.heap.size, 1, none⟩ = some (.string (X k)) ∧ wr.heap.size < W.heap.size) := Lib.hid (fun W hW => by
            have h1 := hW.cell (show (wr.alloc (.cells #[.string (K k), .string (X k)] 53)).cell? ⟨wr.heap.size, 0, none⟩ = some (.string (K k)) by simp)
            have h2 := hW.cell (show (wr.alloc (.cells #[.string (K k), .string (X k)] 53)).cell? ⟨wr.heap.size, 1, none⟩ = some (.string (X k)) by simp)
            exact ⟨h1, h2, World.block_lt_of_cell? W _ h1⟩)
          have hE0 : Ext w (wr.alloc (.cells #[.string (K k), .string (X k)] 53)) := hE.alloc _
          have hcs := catR_size k hall.out
          have hkn : k * 206 ≤ 20 * 206 := Nat.mul_le_mul (by omega) (Nat.le_refl _)
          cases hp : pairB (K k) (X k) with
          | false =>
            obtain ⟨e1, e2, e3⟩ := wr_bad h20 hlt hall.out hp
            have ev : Hid (wrV n K X = ⟨#[]⟩ ∧ wrE n K X = 1 ∧ wrP n K X = k) := Lib.hid ⟨e1, e2, e3⟩
            rw [hp] at C1
            clear hp e1 e2 e3 c1 c2 b1 b2
            generalize catR K X k = acc at *
            generalize K k = kk at *
            generalize X k = xx at *
            go_wp2_with fail
            refine (C1.out _).mono ?_; rintro e w1 ⟨rfl, hx1⟩
            have hE1 := hE0.trans hx1
            go_wp2_with fail
            go_ret2
            rw [ev.out.1, ev.out.2.1, ev.out.2.2]
            exact ⟨_, rfl, .inr ⟨_, rfl, ⟨by simp, by simp⟩⟩, fun h => absurd h (by decide), Ext.trans hE1 (by show Below _ _ _; repeat' (first | (with_reducible exact Below.refl _ _) | (with_reducible assumption) | (with_reducible refine belowDrewN ?_ _) | (with_reducible refine Below.alloc ?_ ?_ _) | (with_reducible refine Below.drew ?_) | (with_reducible refine Below.setCell ?_ ?_ _) | go_size))⟩
          | true =>
            have hrs := recB_small hp
            have Hp := Lib.hid hp
            have hnew : Hid (catR K X (k + 1) = catR K X k ++ recB (K k) (X k)) := Lib.hid rfl
            rw [hp] at C1
            clear hp c1 c2 b1 b2
            generalize catR K X k = acc at *
            generalize recB (K k) (X k) = rr at *
            go_wp2_with fail
            refine (C1.out _).mono ?_; rintro e w1 ⟨rfl, hx1⟩
            obtain ⟨g3, g4, g5⟩ := hbd.out w1 hx1
            have hE1 := hE0.trans hx1
            go_wp2_with fail
            refine (C2.out _ (ht.ext hE1)).mono ?_; rintro e w2 ⟨rfl, hx2⟩
            go_wp2_with fail
            go_roundw
            case rel => exact ⟨k + 1, hlt, by rw [hnew.out], by go_num, Lib.hid (allBelow2 hall.out Hp.out), hE1.trans hx2⟩
            case measure => simp [intOf]; omega
        · obtain rfl : k = n := by omega
          have ev : Hid (wrV k K X = catR K X k ∧ wrE k K X = 0 ∧ wrP k K X = -1) := Lib.hid (wr_good h20 hall.out)
          generalize catR K X k = acc at *
          go_wp2_with fail
          go_ret2
          rw [ev.out.1, ev.out.2.1, ev.out.2.2]
          exact ⟨_, rfl, .inl ⟨rfl, rfl⟩, fun _ => rfl, hE⟩
theorem paxWrite_any (w : World) (v : Value) (n : Nat) (K X : Nat → ByteArray) (h : IsPairs w v n K X) (hs : Short n K X) (ht : HasPow w) : Calls Tryz.prog 26 #[v] w (GivesErr (wrV n K X) (wrE n K X) (wrP n K X) w) :=
  (paxWrite_n w v n K X h hs ht).mono fun _ _ ⟨v, h1, h2, _, h3⟩ => ⟨v, h1, h2, h3⟩
end Go.Proofs.YtnbcbipigiopbaaGreatDoor
/-
  The reference's Records; heavy.
-/
namespace Go.Proofs.YtnbcbipigiopbaaGreatDoor
open Go.RowKit

/-- A result's two cells in a block of its own: they stay, and may be written. -/
theorem res_box {w W : World} {a b : Int} {t : TypeId} (h : Ext (w.alloc (.cells #[.int .i64 a, .int .i64 b] t)) W) :
    W.cell? ⟨w.heap.size, 0, none⟩ = some (.int .i64 a) ∧ W.cell? ⟨w.heap.size, 1, none⟩ = some (.int .i64 b) ∧ W.frozen? ⟨w.heap.size, 0, none⟩ = false ∧ W.frozen? ⟨w.heap.size, 1, none⟩ = false ∧ w.heap.size < W.heap.size := by
  have h1 := h.cell (show (w.alloc (.cells #[.int .i64 a, .int .i64 b] t)).cell? ⟨w.heap.size, 0, none⟩ = some (.int .i64 a) by simp)
  have h2 := h.cell (show (w.alloc (.cells #[.int .i64 a, .int .i64 b] t)).cell? ⟨w.heap.size, 1, none⟩ = some (.int .i64 b) by simp)
  exact ⟨h1, h2, by rw [h.frozens _ _ (by simp)]; simp, by rw [h.frozens _ _ (by simp)]; simp, World.block_lt_of_cell? W _ h1⟩

/-- .. and what was written is read. -/
theorem res_put {W : World} {g : Nat} {a b : Value} (h1 : W.cell? ⟨g, 0, none⟩ = some a) (h2 : W.cell? ⟨g, 1, none⟩ = some b) (x y : Value) :
    (W.setCell ⟨g, 0, none⟩ x).cell? ⟨g, 0, none⟩ = some x ∧ ((W.setCell ⟨g, 0, none⟩ x).setCell ⟨g, 1, none⟩ y).cell? ⟨g, 1, none⟩ = some y := by
  refine ⟨World.cell?_setCell_same' _ _ _ (by rw [h1]; rfl), World.cell?_setCell_same' _ _ _ ?_⟩
  rw [World.cell?_setCell_other (h := fun he => by injection he; omega), h2]
  rfl

set_option maxHeartbeats 4000000 in
set_option maxRecDepth 100000 in
theorem refRecords_any (w : World) (v : Value) (n : Nat) (K X : Nat → ByteArray) (h : IsPairs w v n K X) (hs : Short n K X) (ht : HasPow w) :
    Calls Tryz.prog 21 #[v] w fun e w' => e = .returned (.tuple #[.string (wrV n K X), .agg #[.int .i64 (wrE n K X), .int .i64 (wrP n K X)]]) ∧ Ext w w' := by
  have C3 := Lib.hid (fun w => bareF_any 4 w)
  have C4 := Lib.hid (fun w => goodF_any w)
  by_cases h20 : 20 < n
  · obtain ⟨e1, e2, e3⟩ := wr_many K X h20
    rw [e1, e2, e3]
    have q1 : decide ((20 : Int) < (n : Int)) = true := decide_eq_true (by omega)
    rcases h with ⟨⟨a0, c0, rfl⟩, rfl⟩ | ⟨b, off, cap, rfl, hn, hc⟩
    · omega
    · clear hc hs e1 e2 e3 h20
      go_enter Tryz.func21, Tryz.ntmps21
      go_wp2_with fail
      refine (C3.out _).mono ?_; rintro e w1 ⟨rfl, hx1⟩
      obtain ⟨r1, r2, r3, r4, r5⟩ := res_box hx1
      go_wp2_with fail
      obtain ⟨s0, s1⟩ := res_put r1 r2 (.int .i64 4) (.int .i64 (-1))
      exact bodyPost_ret (v := .tuple #[.string ⟨#[]⟩, .agg #[.int .i64 4, .int .i64 (-1)]]) (by simp [results, Tryz.results21, go_sem, s0, s1]) rfl ⟨rfl, (Ext.trans ((Ext.refl w).alloc _) hx1).setCell (Nat.le_refl _) _ |>.setCell (Nat.le_refl _) _⟩
  · have q1 : decide ((20 : Int) < (n : Int)) = false := decide_eq_false (by omega)
    have hw0 : Ext w (w.alloc (.cells #[.int .i64 0, .int .i64 0] 35)) := (Ext.refl w).alloc _
    rcases h with ⟨⟨a0, c0, rfl⟩, rfl⟩ | ⟨b, off, cap, rfl, hn, hc⟩
    · obtain ⟨e1, e2, e3⟩ := wr_good (K := K) (X := X) h20 (fun j hj => by omega)
      rw [e1, e2, e3]
      go_enter Tryz.func21, Tryz.ntmps21
      go_wp2_with fail
      refine wp_loop_rounds 1 ?_
      rw [rounds_succ]
      go_wp2_with fail
      refine (C4.out _).mono ?_; rintro e w1 ⟨rfl, hx1⟩
      obtain ⟨r1, r2, r3, r4, r5⟩ := res_box hx1
      go_wp2_with fail
      obtain ⟨s0, s1⟩ := res_put r1 r2 (.int .i64 0) (.int .i64 (-1))
      exact bodyPost_ret (v := .tuple #[.string ⟨#[]⟩, .agg #[.int .i64 0, .int .i64 (-1)]]) (by simp [results, Tryz.results21, go_sem, s0, s1]) rfl ⟨rfl, (Ext.trans ((Ext.refl w).alloc _) hx1).setCell (Nat.le_refl _) _ |>.setCell (Nat.le_refl _) _⟩
    · have Hc := Lib.hid hc
      have Hs := Lib.hid hs
      clear hc hs
      go_enter Tryz.func21, Tryz.ntmps21
      go_wp2_with fail
      go_loopw [4, 15] (fun o i wr => ∃ k : Nat, k ≤ n ∧ o = .string (catR K X k) ∧ i = .int .i64 (k : Int) ∧ Hid (∀ j, j < k → pairB (K j) (X j) = true) ∧ Ext (w.alloc (.cells #[.int .i64 0, .int .i64 0] 35)) wr) (fun _ i _ => n - (intOf i).toNat)
      case atStart => exact ⟨0, Nat.zero_le _, rfl, rfl, Lib.hid (fun j hj => by omega), Ext.refl _⟩
      case round =>
        obtain ⟨k, hk, rfl, rfl, hall, hF⟩ := hrel
        have hE := hw0.trans hF
        by_cases hlt : k < n
        · obtain ⟨b1, b2, c1, c2⟩ := Hc.out k hlt
          have g1 := hE.cell c1
          have g2 := hE.cell c2
          have hsh := Hs.out k hlt
          have C1 := Lib.hid (fun w ht => refRecord_any (K k) (X k) (by omega) w ht)
          have hF0 : Ext (w.alloc (.cells #[.int .i64 0, .int .i64 0] 35)) (wr.alloc (.cells #[.string (K k), .string (X k)] 53)) := hF.alloc _
          have hcs := catR_size k hall.out
          have hkn : k * 206 ≤ 20 * 206 := Nat.mul_le_mul (by omega) (Nat.le_refl _)
          cases hp : pairB (K k) (X k) with
          | false =>
            obtain ⟨e1, e2, e3⟩ := wr_bad h20 hlt hall.out hp
            have ev : Hid (wrV n K X = ⟨#[]⟩ ∧ wrE n K X = 1 ∧ wrP n K X = k) := Lib.hid ⟨e1, e2, e3⟩
            have er : Hid (recV (K k) (X k) = ⟨#[]⟩ ∧ recE (K k) (X k) = 1) := Lib.hid (by unfold recV recE; rw [hp]; exact ⟨rfl, rfl⟩)
            rw [er.out.1, er.out.2] at C1
            clear hp e1 e2 e3 c1 c2 b1 b2
            generalize catR K X k = acc at *
            generalize K k = kk at *
            generalize X k = xx at *
            go_wp2_with fail
            refine (C1.out _ (ht.ext (hw0.trans hF0))).mono ?_; rintro e w1 ⟨rfl, hx1⟩
            have hF1 := hF0.trans hx1
            obtain ⟨r1, r2, r3, r4, r5⟩ := res_box hF1
            go_wp2_with fail
            rw [ev.out.1, ev.out.2.1, ev.out.2.2]
            obtain ⟨s0, s1⟩ := res_put r1 r2 (.int .i64 1) (.int .i64 (k : Int))
            exact bodyPost_ret (v := .tuple #[.string ⟨#[]⟩, .agg #[.int .i64 1, .int .i64 (k : Int)]]) (by simp [results, Tryz.results21, go_sem, s0, s1]) rfl ⟨rfl, ((hw0.trans hF1).setCell (Nat.le_refl _) _).setCell (Nat.le_refl _) _⟩
          | true =>
            have hrs := recB_small hp
            have Hp := Lib.hid hp
            have er : Hid (recV (K k) (X k) = recB (K k) (X k) ∧ recE (K k) (X k) = 0) := Lib.hid (by unfold recV recE; rw [hp]; exact ⟨rfl, rfl⟩)
            have hnew : Hid (catR K X (k + 1) = catR K X k ++ recB (K k) (X k)) := Lib.hid rfl
            rw [er.out.1, er.out.2] at C1
            clear hp c1 c2 b1 b2
            generalize catR K X k = acc at *
            generalize recB (K k) (X k) = rr at *
            go_wp2_with fail
            refine (C1.out _ (ht.ext (hw0.trans hF0))).mono ?_; rintro e w1 ⟨rfl, hx1⟩
            go_wp2_with fail
            go_roundw
            case rel => exact ⟨k + 1, hlt, by rw [hnew.out], by go_num, Lib.hid (allBelow2 hall.out Hp.out), hF0.trans hx1⟩
            case measure => simp [intOf]; omega
        · obtain rfl : k = n := by omega
          have ev : Hid (wrV k K X = catR K X k ∧ wrE k K X = 0 ∧ wrP k K X = -1) := Lib.hid (wr_good h20 hall.out)
          generalize catR K X k = acc at *
          go_wp2_with fail
          refine (C4.out _).mono ?_; rintro e w1 ⟨rfl, hx1⟩
          have hF1 := hF.trans hx1
          obtain ⟨r1, r2, r3, r4, r5⟩ := res_box hF1
          go_wp2_with fail
          rw [ev.out.1, ev.out.2.1, ev.out.2.2]
          obtain ⟨s0, s1⟩ := res_put r1 r2 (.int .i64 0) (.int .i64 (-1))
          exact bodyPost_ret (v := .tuple #[.string acc, .agg #[.int .i64 0, .int .i64 (-1)]]) (by simp [results, Tryz.results21, go_sem, s0, s1]) rfl ⟨rfl, ((hw0.trans hF1).setCell (Nat.le_refl _) _).setCell (Nat.le_refl _) _⟩

/-- Too many pairs, or one too long. -/
def heavyB (n : Nat) (K X : Nat → ByteArray) : Bool := decide (30 < n) || (List.range n).any fun k => decide (300 < (K k).size + (X k).size)
theorem heavy_short {n : Nat} {K X : Nat → ByteArray} (h : heavyB n K X = false) : n ≤ 30 ∧ Short n K X := by
  unfold heavyB at h
  simp at h
  exact ⟨h.1, fun k hk => h.2 k hk⟩
theorem heavy_hit {n k : Nat} {K X : Nat → ByteArray} (hk : k < n) (h : 300 < (K k).size + (X k).size) : heavyB n K X = true := by
  unfold heavyB
  have : ((List.range n).any fun k => decide (300 < (K k).size + (X k).size)) = true := by
    rw [List.any_eq_true]
    exact ⟨k, by simpa using hk, by simpa using h⟩
  simp [this]
theorem heavy_none {n : Nat} {K X : Nat → ByteArray} (hn : n ≤ 30) (h : ∀ j, j < n → (K j).size + (X j).size ≤ 300) : heavyB n K X = false := by
  unfold heavyB
  have : ((List.range n).any fun k => decide (300 < (K k).size + (X k).size)) = false := by
    rw [List.any_eq_false]
    intro x hx
    have := h x (by simpa using hx)
    simp
    omega
  simp [this, hn]

set_option maxHeartbeats 1600000 in
set_option maxRecDepth 100000 in
theorem heavy_any (w : World) (v : Value) (n : Nat) (K X : Nat → ByteArray) (h : IsPairs w v n K X) : Calls Tryz.prog 9 #[v] w fun x w' => x = .returned (.bool (heavyB n K X)) ∧ Ext w w' := by
  by_cases hm : 30 < n
  · have er : Hid (heavyB n K X = true) := Lib.hid (by unfold heavyB; simp [hm])
    have q1 : decide ((30 : Int) < (n : Int)) = true := decide_eq_true (by omega)
    rcases h with ⟨⟨a, c, rfl⟩, rfl⟩ | ⟨b, off, cap, rfl, hn, hc⟩
    · omega
    · clear hm
      go_enter Tryz.func9, Tryz.ntmps9
      go_wp2_with fail
      go_ret
      exact ⟨ret_bool (by rw [er.out]), (by show Below _ _ _; repeat' (first | (with_reducible exact Below.refl _ _) | (with_reducible assumption) | (with_reducible refine belowDrewN ?_ _) | (with_reducible refine Below.alloc ?_ ?_ _) | (with_reducible refine Below.drew ?_) | (with_reducible refine Below.setCell ?_ ?_ _) | go_size))⟩
  · have q1 : decide ((30 : Int) < (n : Int)) = false := decide_eq_false (by omega)
    rcases h with ⟨⟨a, c, rfl⟩, rfl⟩ | ⟨b, off, cap, rfl, hn, hc⟩
    · have er : Hid (heavyB 0 K X = false) := Lib.hid (heavy_none (by omega) fun j hj => by omega)
      go_enter Tryz.func9, Tryz.ntmps9
      go_wp2_with fail
      refine wp_loop_rounds 1 ?_
      rw [rounds_succ]
      go_wp2_with fail
      go_ret
      exact ⟨ret_bool (by rw [er.out]), (by show Below _ _ _; repeat' (first | (with_reducible exact Below.refl _ _) | (with_reducible assumption) | (with_reducible refine belowDrewN ?_ _) | (with_reducible refine Below.alloc ?_ ?_ _) | (with_reducible refine Below.drew ?_) | (with_reducible refine Below.setCell ?_ ?_ _) | go_size))⟩
    · have Hc := Lib.hid hc
      clear hc
      go_enter Tryz.func9, Tryz.ntmps9
      go_wp2_with fail
      go_loopw [3] (fun i wr => ∃ k : Nat, k ≤ n ∧ i = .int .i64 (k : Int) ∧ Hid (∀ j, j < k → (K j).size + (X j).size ≤ 300) ∧ Ext w wr) (fun i _ => n - (intOf i).toNat)
      case atStart => exact ⟨0, by omega, rfl, Lib.hid (fun j hj => by omega), Ext.refl _⟩
      case round =>
        obtain ⟨k, hk, rfl, hall, hE⟩ := hrel
        by_cases hlt : k < n
        · obtain ⟨b1, b2, c1, c2⟩ := Hc.out k hlt
          have g1 := hE.cell c1
          have g2 := hE.cell c2
          have lb : b < wr.heap.size := World.block_lt_of_cell? wr _ g1
          have hcond : Hid ((K k).size + (X k).size ≤ 300 → ∀ j, j < k + 1 → (K j).size + (X j).size ≤ 300) := Lib.hid (fun h j hj => by
            rcases Nat.lt_succ_iff_lt_or_eq.1 hj with h1 | rfl
            · exact hall.out j h1
            · exact h)
          have hh : Hid (300 < (K k).size + (X k).size → heavyB n K X = true) := Lib.hid (heavy_hit hlt)
          clear c1 c2
          generalize K k = kk at *
          generalize X k = xx at *
          by_cases hq : (300 : Int) < (kk.size : Int) + (xx.size : Int)
          · have q2 : decide ((300 : Int) < (kk.size : Int) + (xx.size : Int)) = true := decide_eq_true hq
            have er := Lib.hid (hh.out (by omega))
            clear hq
            go_wp2_with fail
            refine wp_region_det (Stood _) (by kernel_rfl) (by kernel_rfl) (Stood.start _) ?_
            repeat (first
              | (refine det_skip (by rfl) ?_; simp only [Act.put, List.setIfInBounds_toArray, List.set_cons_zero, List.set_cons_succ])
              | (refine det_op (v := ?_) rfl (by rfl) (fun w' hS => ?_) ?_; rotate_left; (focus (obtain ⟨hcl, hxt⟩ := hS; go_wp2_with (fail); (first | refine ⟨?_, rfl, hcl, hxt⟩ | refine ⟨?_, rfl, Stood.of (hxt.trans (by assumption))⟩); (first | (simp only [List.getElem?_toArray, List.getElem?_cons_succ, List.getElem?_cons_zero]; rfl) | rfl))); simp only [Act.put, List.setIfInBounds_toArray, List.set_cons_zero, List.set_cons_succ]))
            refine det_end ?_
            intro w1 hS
            have hx := hS.2
            clear hS
            go_wp2_with fail
            go_ret
            exact ⟨ret_bool (by rw [er.out]), hE.trans hx⟩
          · have q2 : decide ((300 : Int) < (kk.size : Int) + (xx.size : Int)) = false := decide_eq_false hq
            have hle : Hid (kk.size + xx.size ≤ 300) := Lib.hid (by omega)
            clear hq
            go_wp2_with fail
            refine wp_region_det (Stood _) (by kernel_rfl) (by kernel_rfl) (Stood.start _) ?_
            repeat (first
              | (refine det_skip (by rfl) ?_; simp only [Act.put, List.setIfInBounds_toArray, List.set_cons_zero, List.set_cons_succ])
              | (refine det_op (v := ?_) rfl (by rfl) (fun w' hS => ?_) ?_; rotate_left; (focus (obtain ⟨hcl, hxt⟩ := hS; go_wp2_with (fail); (first | refine ⟨?_, rfl, hcl, hxt⟩ | refine ⟨?_, rfl, Stood.of (hxt.trans (by assumption))⟩); (first | (simp only [List.getElem?_toArray, List.getElem?_cons_succ, List.getElem?_cons_zero]; rfl) | rfl))); simp only [Act.put, List.setIfInBounds_toArray, List.set_cons_zero, List.set_cons_succ]))
            refine det_end ?_
            intro w1 hS
            have hx := hS.2
            clear hS
            go_wp2_with fail
            go_roundw
            case rel => exact ⟨k + 1, hlt, by go_num, Lib.hid (hcond.out hle.out), hE.trans hx⟩
            case measure => simp [intOf]; omega
        · obtain rfl : k = n := by omega
          have er : Hid (heavyB k K X = false) := Lib.hid (heavy_none (by omega) hall.out)
          go_wp2_with fail
          go_ret
          exact ⟨ret_bool (by rw [er.out]), hE⟩
end Go.Proofs.YtnbcbipigiopbaaGreatDoor
/-
  The records of a member and the lines of its pieces, in plain words. No program, no conditions.
-/
namespace Go.Proofs.YtnbcbipigiopbaaGreatDoor
open Go.RowKit

def itB (n : Int) : ByteArray := ⟨(Lib.itoa n).toArray⟩
def kMaj : ByteArray := ⟨#[71, 78, 85, 46, 115, 112, 97, 114, 115, 101, 46, 109, 97, 106, 111, 114]⟩
def kMin : ByteArray := ⟨#[71, 78, 85, 46, 115, 112, 97, 114, 115, 101, 46, 109, 105, 110, 111, 114]⟩
def kReal : ByteArray := ⟨#[71, 78, 85, 46, 115, 112, 97, 114, 115, 101, 46, 114, 101, 97, 108, 115, 105, 122, 101]⟩
def kGid : ByteArray := ⟨#[103, 105, 100]⟩
def kLink : ByteArray := ⟨#[108, 105, 110, 107, 112, 97, 116, 104]⟩
def kMtime : ByteArray := ⟨#[109, 116, 105, 109, 101]⟩
def kPath : ByteArray := ⟨#[112, 97, 116, 104]⟩
def kUid : ByteArray := ⟨#[117, 105, 100]⟩
def vOne : ByteArray := ⟨#[49]⟩
def vZero : ByteArray := ⟨#[48]⟩
def paxHd : ByteArray := ⟨#[80, 97, 120, 72, 101, 97, 100, 101, 114]⟩
def paxNm : ByteArray := ⟨#[80, 97, 120, 78, 97, 109, 101]⟩
/-- One record more, or none. -/
def addL (b : Bool) (k v : ByteArray) (l : List (ByteArray × ByteArray)) : List (ByteArray × ByteArray) := if b = true then l ++ [(k, v)] else l
theorem addL_yes (k v : ByteArray) (l : List (ByteArray × ByteArray)) : addL true k v l = l ++ [(k, v)] := rfl
theorem addL_no (k v : ByteArray) (l : List (ByteArray × ByteArray)) : addL false k v l = l := rfl
theorem addL_len (b : Bool) (k v : ByteArray) (l : List (ByteArray × ByteArray)) : (addL b k v l).length ≤ l.length + 1 := by
  cases b <;> simp [addL]
def mtB (ts tn : Int) : Bool := !(tn == 0) || !(rngB ts 0 8589934591)
/-- The records of a member. -/
def recsL (sp fits : Bool) (sz gi ui ts tn : Int) (lk nm : ByteArray) : List (ByteArray × ByteArray) :=
  addL (decide (2097151 < ui)) kUid (itB ui) (addL (!fits) kPath nm (addL (mtB ts tn) kMtime (textV ts tn) (addL (decide (100 < (lk.size : Int))) kLink lk (addL (decide (2097151 < gi)) kGid (itB gi) (addL sp kReal (itB sz) (addL sp kMin vZero (addL sp kMaj vOne [])))))))
def ShortL (l : List (ByteArray × ByteArray)) : Prop := ∀ p ∈ l, p.1.size + p.2.size ≤ 200
theorem addL_short {b : Bool} {k v : ByteArray} {l : List (ByteArray × ByteArray)} (h : ShortL l) (hk : k.size + v.size ≤ 200) : ShortL (addL b k v l) := by
  cases b
  · exact h
  · intro p hp
    simp only [addL, if_true, List.mem_append, List.mem_singleton] at hp
    rcases hp with hp | rfl
    · exact h p hp
    · exact hk
theorem itB_size (n : Int) (h0 : -9999999999999 ≤ n) (h1 : n ≤ 9999999999999) : (itB n).size ≤ 14 := itoa_size n h0 h1
theorem dropWhile_len (p : UInt8 → Bool) (l : List UInt8) : (l.dropWhile p).length ≤ l.length := by
  induction l with
  | nil => simp
  | cons x t ih =>
    rw [List.dropWhile_cons]
    split
    · simp; omega
    · simp
theorem textV_size (ts tn : Int) : (textV ts tn).size ≤ 40 := by
  unfold textV
  split
  · rename_i hb
    have hb2 : -1099511627776 ≤ ts ∧ ts ≤ 1099511627776 := by
      unfold timeB at hb
      simp only [Bool.and_eq_true, decide_eq_true_eq] at hb
      omega
    have h1 : (signT ts).size ≤ 1 := by unfold signT; split <;> decide
    have h2 : (⟨(Lib.itoa (wholeT ts tn)).toArray⟩ : ByteArray).size ≤ 14 := itoa_size _ (by unfold wholeT; split <;> (try split) <;> omega) (by unfold wholeT; split <;> (try split) <;> omega)
    have h3 : (tailT (partT ts tn)).size ≤ 11 := by
      unfold tailT
      split
      · rw [ByteArray.size_append]
        have : (⟨(trimZ (pad9 (partT ts tn).toNat)).toArray⟩ : ByteArray).size ≤ 9 := by
          show (trimZ (pad9 (partT ts tn).toNat)).toArray.size ≤ 9
          rw [List.size_toArray]
          unfold trimZ Lib.trimRightB
          have h := dropWhile_len (fun x => x == 48) (pad9 (partT ts tn).toNat).reverse
          rw [List.length_reverse, pad9_len] at h
          simpa using h
        show 1 + _ ≤ _
        omega
      · show 0 ≤ _
        omega
    rw [ByteArray.size_append, ByteArray.size_append]
    omega
  · show 0 ≤ _
    omega
theorem recsL_short {sp fits : Bool} {sz gi ui ts tn : Int} {lk nm : ByteArray} (h1 : 0 ≤ sz) (h2 : sz ≤ 4000) (h3 : 0 ≤ gi) (h4 : gi ≤ 1099511627775) (h5 : 0 ≤ ui) (h6 : ui ≤ 1099511627775) (h7 : lk.size ≤ 121) (h8 : nm.size ≤ 121) : ShortL (recsL sp fits sz gi ui ts tn lk nm) := by
  have a1 := itB_size sz (by omega) (by omega)
  have a2 := itB_size gi (by omega) (by omega)
  have a3 := itB_size ui (by omega) (by omega)
  have a4 := textV_size ts tn
  unfold recsL
  refine addL_short (addL_short (addL_short (addL_short (addL_short (addL_short (addL_short (addL_short (fun p hp => absurd hp (by simp)) ?_) ?_) ?_) ?_) ?_) ?_) ?_) ?_
  · decide
  · decide
  · show 19 + _ ≤ _; omega
  · show 3 + _ ≤ _; omega
  · show 8 + _ ≤ _; omega
  · show 5 + _ ≤ _; omega
  · show 4 + _ ≤ _; omega
  · show 3 + _ ≤ _; omega
theorem recsL_len (sp fits : Bool) (sz gi ui ts tn : Int) (lk nm : ByteArray) : (recsL sp fits sz gi ui ts tn lk nm).length ≤ 8 := by
  unfold recsL
  refine Nat.le_trans (addL_len _ _ _ _) (Nat.succ_le_succ (Nat.le_trans (addL_len _ _ _ _) (Nat.succ_le_succ (Nat.le_trans (addL_len _ _ _ _) (Nat.succ_le_succ (Nat.le_trans (addL_len _ _ _ _) (Nat.succ_le_succ (Nat.le_trans (addL_len _ _ _ _) (Nat.succ_le_succ (Nat.le_trans (addL_len _ _ _ _) (Nat.succ_le_succ (Nat.le_trans (addL_len _ _ _ _) (Nat.succ_le_succ (Nat.le_trans (addL_len _ _ _ _) ?_))))))))))))))
  simp
/-- A list of pairs as functions. -/
def keyF (l : List (ByteArray × ByteArray)) (k : Nat) : ByteArray := (l.getD k (⟨#[]⟩, ⟨#[]⟩)).1
def valF (l : List (ByteArray × ByteArray)) (k : Nat) : ByteArray := (l.getD k (⟨#[]⟩, ⟨#[]⟩)).2
theorem IsPrs.pairs {w : World} {v : Value} {l : List (ByteArray × ByteArray)} (h : IsPrs w v l) (hs : ShortL l) (hl : l.length ≤ 1000) : IsPairs w v l.length (keyF l) (valF l) := by
  rcases h with ⟨hv, rfl⟩ | ⟨b, off, cap, hv, hc⟩
  · exact .inl ⟨hv, rfl⟩
  · refine .inr ⟨b, off, cap, hv, by omega, fun k hk => ?_⟩
    have h1 := hs l[k] (List.getElem_mem hk)
    have e : l.getD k (⟨#[]⟩, ⟨#[]⟩) = l[k] := by rw [List.getD_eq_getElem?_getD, List.getElem?_eq_getElem hk]; rfl
    unfold keyF valF
    rw [e]
    exact ⟨by omega, by omega, hc k hk⟩
theorem short_of {l : List (ByteArray × ByteArray)} (hs : ShortL l) : Short l.length (keyF l) (valF l) := fun k hk => by
  have h1 := hs l[k] (List.getElem_mem hk)
  have e : l.getD k (⟨#[]⟩, ⟨#[]⟩) = l[k] := by rw [List.getD_eq_getElem?_getD, List.getElem?_eq_getElem hk]; rfl
  unfold keyF valF
  rw [e]
  omega

/-- The lines of the first k pieces. -/
def lnsB (A S : Nat → Int) (n : Nat) : Nat → ByteArray
  | 0 => itB n ++ ⟨#[10]⟩
  | k + 1 => lnsB A S n k ++ (itB (A k) ++ ⟨#[10]⟩ ++ itB (S k) ++ ⟨#[10]⟩)
theorem lnsB_size {A S : Nat → Int} {n : Nat} (hn : n ≤ 20) (h : ∀ k, k < n → 0 ≤ A k ∧ A k ≤ 4000 ∧ 0 ≤ S k ∧ S k ≤ 4000) : ∀ k, k ≤ n → (lnsB A S n k).size ≤ 15 + 30 * k
  | 0, _ => by
    have := itB_size n (by omega) (by omega)
    unfold lnsB
    rw [ByteArray.size_append]
    show _ + 1 ≤ _
    omega
  | k + 1, hk => by
    have ih := lnsB_size hn h k (by omega)
    have hb := h k (by omega)
    have a1 := itB_size (A k) (by omega) (by omega)
    have a2 := itB_size (S k) (by omega) (by omega)
    unfold lnsB
    rw [ByteArray.size_append, ByteArray.size_append, ByteArray.size_append, ByteArray.size_append]
    show _ + (_ + 1 + _ + 1) ≤ _
    omega
end Go.Proofs.YtnbcbipigiopbaaGreatDoor
