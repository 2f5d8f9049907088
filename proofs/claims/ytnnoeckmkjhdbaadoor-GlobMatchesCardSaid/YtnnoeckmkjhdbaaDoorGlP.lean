/-
  Patterns parsed. No conditions but the text's length.
-/
import Derived.Test.YtnnoeckmkjhdbaaDoorGlN
import Derived.Laws.AppendOwn
import Derived.Deep.WholeRow
namespace Go.Proofs.YtnnoeckmkjhdbaaDoor
open Go.RowKit Go.PlainAid

def toksC (l : List Tok) : List Value := l.flatMap fun t => (tokRow t.many t.deep t.set).toList
theorem toksC_snoc (l : List Tok) (t : Tok) : toksC (l ++ [t]) = toksC l ++ (tokRow t.many t.deep t.set).toList := by
  unfold toksC
  rw [List.flatMap_append, List.flatMap_singleton]
theorem infoTok : (Tryd.prog.info? 52).map (fun i => (i.zero, i.size, i.bytes)) = some (some (.agg zTok), 258, 258) := by first | (rw [zTok_eq]; kernel_rfl) | kernel_rfl
theorem tokSize1 {m d : Bool} {g : Int → Bool} : zTok.size = (tokRow m d g).size := by rw [zeroTok, tokRow_size, tokRow_size]
theorem fill_list : ∀ (l pre post : List Value), post.length = l.length → (l.zipIdx pre.length).foldl (fun (cs : Array Value) p => cs.setIfInBounds (0 + p.2) p.1) (pre ++ post).toArray = (pre ++ l).toArray
  | [], pre, post, h => by
    have : post = [] := List.length_eq_zero_iff.1 h
    subst this
    rfl
  | x :: l, pre, post, h => by
    match post, h with
    | y :: post, h =>
      have h2 : post.length = l.length := by simpa using h
      have e : ((pre ++ y :: post).toArray).setIfInBounds (0 + pre.length) x = ((pre ++ [x]) ++ post).toArray := by simp
      have ih := fill_list l (pre ++ [x]) post h2
      rw [List.length_append, List.length_singleton] at ih
      rw [List.zipIdx_cons, List.foldl_cons]
      simp only
      rw [e, ih]
      simp
theorem run_buildTok (row : Array Value) (h : row.size = 258) (w : World) : (Instr.buildSlice 34 1 #[(0, .agg row)]).run Tryd.prog w = .ok (.slice (some ⟨w.heap.size, 0, none⟩) 1 1) (w.alloc (.cells row 52)) := by
  have h1 : (Go.underlying 34).run Tryd.prog w = .ok (.slice 52) w := run_underlying Tryd.underlying34 w
  have h2 : (Go.sizeOf 52).run Tryd.prog w = .ok 258 w := by kernel_rfl
  have h3 : (zeroValue 52).run Tryd.prog w = .ok (.agg zTok) w := by first | exact zeroTokV _ | exact Tryd.zeroValue52 _ | kernel_rfl
  have hf : ∀ Z : Array Value, Z.size = 258 → Instr.fill (fun i => some (i * 258, 258)) Z [(0, .agg row)] = some row := fun Z hZ => by
    have e1 : row.zipIdx.foldl (fun (cs : Array Value) p => cs.setIfInBounds (0 * 258 + p.2) p.1) Z = row := by
      have := fill_list row.toList [] Z.toList (by simp [h, hZ])
      rw [← Array.foldl_toList, Array.toList_zipIdx]
      simpa using this
    have e2 : (Value.agg row).cells = row := rfl
    simp only [Instr.fill, e2]
    rw [if_neg (by simp [h, hZ])]
    exact congrArg some e1
  unfold Instr.buildSlice
  simp [Sem.run_bind, h1, h2, h3, Result.andThen, newRow, newObj, hf]
  rfl
theorem tokZc : (Value.agg zTok).cells.size = 258 := by show zTok.size = 258; rw [zeroTok, tokRow_size]
/-- What 'parse' leaves. -/
def ParseR (s : ByteArray) (w : World) (x : Ending) (w' : World) : Prop := ∃ (v : Value) (ok : Bool), x = .returned (.tuple #[v, .bool ok]) ∧ Ext w w' ∧
  ((parseV s = none ∧ ok = false) ∨ ∃ l, parseV s = some l ∧ ok = true ∧ w'.ownsRow (w.heap.size + 1) 52 258 v l.length (toksC l))
theorem own_extG {w w' : World} {base : Nat} {t : TypeId} {sz : Nat} {v : Value} {n : Nat} {xs : List Value} (h : w.ownsRow base t sz v n xs) (hE : Ext w w') : w'.ownsRow base t sz v n xs :=
  h.kept (row := none) ⟨hE.os, hE.tape, hE.output, hE.size, fun b hb _ => hE.block b hb⟩ (by cases v.ownBlock <;> simp)
theorem own_geG {w : World} {base : Nat} {t : TypeId} {sz : Nat} {v : Value} {n : Nat} {xs : List Value} (h : w.ownsRow base t sz v n xs) {B : Nat} (hB : B ≤ base) : ∀ k, v.ownBlock = some k → B ≤ k := fun k hk => Nat.le_trans hB (World.ownsRow.lt h k hk).1
theorem own_turnG {w w' : World} {D : Nat → Prop} {base : Nat} {t : TypeId} {sz : Nat} {v : Value} {n : Nat} {xs : List Value} (h : w.ownsRow base t sz v n xs) (hE : Turn D w w') (hd : ∀ i, D i → i < base) : w'.ownsRow base t sz v n xs := by
  obtain ⟨hl, h0 | ⟨g, cap, cur, hv, hb, hh, r⟩⟩ := h
  · exact ⟨hl, .inl h0⟩
  · exact ⟨hl, .inr ⟨g, cap, cur, hv, hb, hE.heap hh (fun hx => by have := hd g hx; omega), r⟩⟩
theorem own_openG {w : World} {base : Nat} {t : TypeId} {sz : Nat} {v : Value} {n : Nat} {xs : List Value} (h : w.ownsRow base t sz v n xs) : ∃ oa cap, v = .slice oa n cap := by
  obtain ⟨_, ⟨hv, hn⟩ | ⟨g, cap, cur, hv, hb, hh, hn, hm, hs, ht⟩⟩ := h
  · exact ⟨none, 0, by rw [hv, hn]⟩
  · exact ⟨_, _, hv⟩
theorem wpList_buildTok {ops : Array Oper} {rest : List Oper} {o : Oper} {a : Act} {Q : Exit → Act → World → Prop} (w : World) (hg : o.guard = none) (x : Operand) (hop : o.op = Op.buildSlice 34 1 #[(0, x)]) (row : Array Value) (hx : a.eval x = .agg row) (hz : row.size = 258)
    (hK : wpList Tryd.prog ops Q rest (a.put o.dst (.slice (some ⟨w.heap.size, 0, none⟩) 1 1)) (w.alloc (.cells row 52))) : wpList Tryd.prog ops Q (o :: rest) a w := by
  refine wpList_plain hg fun K' hK' => ?_
  unfold Oper.wp
  simp [execOp, hop, hx, run_buildTok row hz w, Result.andThen]
  exact hK' _ _ hK
set_option maxHeartbeats 2000000 in
set_option maxRecDepth 100000 in
theorem glParse_any (s : ByteArray) (hs : s.size ≤ 100000) (w : World) : Calls Tryd.prog 9 #[.string s] w (ParseR s w) := by
  obtain ⟨P, hPe⟩ : ∃ P, P = parseV s := ⟨_, rfl⟩
  have HP := Lib.hid hPe
  have gb := get_bt s
  obtain ⟨i0, hi, hz0, hz1, hz2⟩ := info_parts infoTok
  clear hPe
  go_enter Tryd.func9, Tryd.ntmps9
  go_wp2_with fail
  go_loopw [4] (fun v wr => ∃ (f a : Nat) (acc : List Tok), RdAt wr w.heap.size s a ∧ a ≤ s.size ∧ s.size - a < f ∧ (parseL f (suf s a)).map (acc ++ ·) = P ∧ acc.length ≤ a ∧ wr.ownsRow (w.heap.size + 1) 52 258 v acc.length (toksC acc) ∧ Ext w wr) (fun _ wr => s.size - posOf wr w.heap.size)
  case atStart => exact ⟨s.size + 1, 0, [], (MapKept.heap_alloc w _).1, Nat.zero_le _, by omega, by rw [HP.out, suf_zero]; unfold parseV; cases parseL (s.size + 1) s <;> rfl, Nat.le_refl _, World.ownsRow_nil _ _ _ _, (Ext.refl w).alloc _⟩
  case round =>
    obtain ⟨f, a, acc, hr, k1, k2, k3, k4, hO, hE⟩ := hrel
    obtain ⟨f, rfl⟩ : ∃ e, f = e + 1 := ⟨f - 1, by omega⟩
    obtain ⟨oa, cap, rfl⟩ := own_openG hO
    have HR := Lib.hid hr
    have HO := Lib.hid hO
    have HK := Lib.hid k3
    have hpos := Lib.hid hr.pos
    have c0 := hr.c0
    have c1 := hr.c1
    have hl := hr.lt
    have hsz := suf_size s a
    clear hr hO k3
    by_cases h0 : a < s.size
    · have q1 : decide ((a : Int) < (s.size : Int)) = true := decide_eq_true (by omega)
      have hne : (suf s a).size ≠ 0 := by omega
      have HNE := Lib.hid hne
      have CN := Lib.hid (glNext_any s hs w.heap.size a wr HR.out h0)
      clear hne hsz
      go_wp2_with fail
      refine CN.out.mono ?_; rintro x w5 ⟨a2, m, d, g, ok, hx, hr5, ha5, ht5, hcase⟩
      obtain ⟨row, hrow⟩ : ∃ row, row = tokRow m d g := ⟨_, rfl⟩
      rw [← hrow] at hx
      subst hx
      have HROW := Lib.hid hrow
      have hr1 : (Tryd.prog.info? 52).map (·.size) = some row.size := by rw [hrow]; exact tokInfo2
      have hr2 : zTok.size = row.size := by rw [hrow]; exact tokSize1
      have hr3 : row.all (·.oneCell') = true := by rw [hrow]; exact tokRow_one _ _ _
      have R1 := Lib.hid hr1
      have R2 := Lib.hid hr2
      have R3 := Lib.hid hr3
      clear hrow hr1 hr2 hr3
      have hE5 : Ext w w5 := ht5.ext hE (fun i hi => by rw [hi]; exact Nat.le_refl _)
      have HO5 := Lib.hid (own_turnG HO.out ht5 (fun i hi => by rw [hi]; exact Nat.lt_succ_self _))
      have HR5 := Lib.hid hr5
      have HC := Lib.hid hcase
      have hws := hE5.size
      clear hr5 hcase ht5 CN HO HR c0 c1 hl
      have HA := Lib.hid (show (w5.alloc (.cells zTok 52)).heap[w5.heap.size]? = some (.cells zTok 52 (0, 0)) from (MapKept.heap_alloc w5 _).1)
      have HL := Lib.hid (show (w5.alloc (.cells row 52)).heap[w5.heap.size]? = some (.cells row 52 (0, 0)) from (MapKept.heap_alloc w5 _).1)
      cases ok with
      | false =>
        have hv : Hid (P = none) := Lib.hid (by
          rcases HC.out with ⟨h1, _⟩ | ⟨_, h2, _⟩
          · rw [← HK.out, parseL_bad HNE.out h1]
            rfl
          · cases h2)
        go_wp2_with (refine wpList_store_row rfl 52 (.tmp 6) (.tmp 21) rfl w5.heap.size row rfl rfl 52 _ HA.out R1.out R2.out R3.out ?_; rw [World.setRow_alloc_new])
        go_ret2
        exact ⟨_, _, rfl, hE5.alloc _, .inl ⟨by rw [← HP.out, hv.out], rfl⟩⟩
      | true =>
        have hv : Hid ((parseL f (suf s a2)).map (acc ++ [⟨m, d, g⟩] ++ ·) = P ∧ a < a2) := Lib.hid (by
          rcases HC.out with ⟨_, h2⟩ | ⟨h1, _, h3⟩
          · cases h2
          · refine ⟨?_, h3⟩
            rw [← HK.out, parseL_step HNE.out h1, Option.map_map]
            congr 1
            funext l
            simp)
        have hz : row.size = 258 := by rw [HROW.out, tokRow_size]
        obtain ⟨tk, htk⟩ : ∃ tk : Tok, tk = ⟨m, d, g⟩ := ⟨_, rfl⟩
        have hv2 : Hid ((parseL f (suf s a2)).map (acc ++ [tk] ++ ·) = P ∧ a < a2) := Lib.hid (by rw [htk]; exact hv.out)
        have hrt : Hid (row = tokRow tk.many tk.deep tk.set) := Lib.hid (by rw [htk]; exact HROW.out)
        clear htk hv HC
        have hzl : row.toList.length = 1 * 258 := by simp [hz]
        have HO6 := (HO5.out.alloc (.cells row 52)).alloc (.cells row 52)
        have hbase : w.heap.size + 1 ≤ w5.heap.size := HR5.out.lt
        go_wp2_with (first | (refine wpList_store_row rfl 52 (.tmp 6) (.tmp 21) rfl w5.heap.size row rfl rfl 52 _ HA.out R1.out R2.out R3.out ?_; rw [World.setRow_alloc_new]) | (refine wpList_load_row rfl 52 (.tmp 6) rfl w5.heap.size rfl 52 row (0, 0) _ HL.out Tryd.underlying52 rfl R1.out ?_) | (refine wpList_buildTok _ rfl (.tmp 26) rfl row rfl hz ?_; simp only [World.size_alloc]) | (at_builtin; refine wpList_append_own _ rfl _ _ 34 rfl (w.heap.size + 1) 52 i0 (.agg zTok) 258 258 Tryd.underlying34 hi hz0 hz1 hz2 tokZc (by decide) _ _ _ rfl HO6 ⟨w5.heap.size + 1, 0, none⟩ 1 1 row.toList rfl hzl ?c1 ?c2 ?c3 ?c4 ?c5 ?_))
        case c1 =>
          intro i v hv
          rw [show (⟨w5.heap.size + 1, 0, none⟩ : Addr).add i = ⟨w5.heap.size + 1, i, none⟩ by unfold Addr.add; split <;> simp_all]
          have e1 : (w5.alloc (.cells row 52)).heap.size = w5.heap.size + 1 := by simp
          have e2 := (MapKept.heap_alloc (w5.alloc (.cells row 52)) (.cells row 52)).1
          rw [e1] at e2
          simp only [World.cell?, e2]
          simpa using hv
        case c2 =>
          intro v hv
          have h3 := R3.out
          rw [Array.all_eq_true_iff_forall_mem] at h3
          exact h3 v (by simpa using hv)
        case c3 => unfold maxLen; omega
        case c4 => omega
        case c5 => simp; omega
        intro v' w8 hown8 hgrow _
        have hE8 : Ext w w8 := ((hE5.alloc _).alloc _).ofGrown hgrow (fun i hi => own_geG HO6 (by omega) i hi)
        have HO8 : Hid (w8.ownsRow (w.heap.size + 1) 52 258 v' (acc ++ [tk]).length (toksC (acc ++ [tk]))) := Lib.hid (by
          rw [toksC_snoc, List.length_append, ← hrt.out]
          exact hown8)
        have HR8 : Hid (RdAt w8 w.heap.size s a2) := Lib.hid ((hgrow.block w.heap.size (by simp; omega) (by
          intro e
          have := (World.ownsRow.lt HO6 w.heap.size e.symm).1
          omega)).trans ((HR5.out.ext (((Ext.refl w5).alloc _).alloc _))))
        have hlen : (acc ++ [tk]).length ≤ a2 := by
          rw [List.length_append, List.length_singleton]
          have := hv2.out.2
          omega
        clear HO6 hown8 hgrow
        go_wp2_with fail
        go_roundw
        case rel => exact ⟨f, a2, acc ++ [tk], HR8.out, ha5, by have := hv2.out.2; omega, hv2.out.1, hlen, HO8.out, hE8⟩
        case measure =>
          rw [HR8.out.pos, hpos.out]
          have := hv2.out.2
          omega
    · have q1 : decide ((a : Int) < (s.size : Int)) = false := decide_eq_false (by omega)
      have hv : Hid (P = some acc) := Lib.hid (by rw [← HK.out, parseL_end (by omega)]; simp)
      go_wp2_with fail
      go_ret2
      exact ⟨_, _, rfl, hE, .inr ⟨acc, by rw [← HP.out, hv.out], rfl, HO.out⟩⟩
end Go.Proofs.YtnnoeckmkjhdbaaDoor
