/-
  Rows of pairs that are sorted: sort.Slice as the reference's Merge calls it. No conditions but bounds.
-/
import Derived.Shelf.SlSortFuncK.WholeK
import Derived.Shelf.GgSortFunc.Tiny
import Derived.Deep.QuietTactic
import Derived.Test.YtnnoeckmkjhdbaaShelf
import Derived.Test.YtnnoeckmkjhdbaaPrs
import Derived.Test.YtnnoeckmkjhdbaaMgV
namespace Go.Proofs.Ytnnoeckmkjhdbaa
open Go.Shelf Go.RowKit Go.Lib Go.Sort Go.WideShapes

def encPr (x : Pr) : List Value := [.string x.1, .string x.2]
theorem encPr_one (x : Pr) : ∀ v ∈ encPr x, v.oneCell' = true := fun v hv => by
  simp [encPr] at hv
  rcases hv with rfl | rfl <;> rfl
theorem grown_sortK {W : World} {g n : Nat} {os : Array Obj} (d : Array Pr) : W.grownBy (grow (putRowK encPr 2 (Sort.ahead W n) g 0 d) os) (some g) := by
  refine ⟨rfl, rfl, rfl, by simp [putRowK], fun k hk hne => ?_⟩
  rw [heap_grow_old _ _ (by simpa [putRowK] using hk)]
  have : g ≠ k := fun e => hne (by rw [e])
  simp [putRowK, putRow, mapBlock, Sort.ahead, Array.getElem?_modify, this]
theorem grown_grow {W : World} {os : Array Obj} (row : Option Nat) : W.grownBy (grow W os) row :=
  ⟨rfl, rfl, rfl, by simp [grow], fun k hk _ => heap_grow_old _ _ hk⟩
/-- What a slice of its own holds, as the sort wants it. -/
theorem holds_own {W : World} {base g cap : Nat} {L : List Pr} (h : W.ownsRow base 28 2 (.slice (some ⟨g, 0, none⟩) L.length cap) L.length (cellsB L)) : HoldsK encPr 2 W g 0 L.toArray := by
  intro t ht
  have ht' : t < L.length * 2 := by simpa using ht
  have hi : t / 2 < L.length := by omega
  refine ⟨?_, by rw [Nat.zero_add]; exact h.frozenAt t⟩
  rw [Nat.zero_add, h.cellAt t ht']
  obtain ⟨c0, c1⟩ := cellsB_at L (t / 2) hi
  show _ = some (id (flatK encPr 2 L.toArray)[t]!)
  rw [get_flatK encPr 2 L.toArray t (by simpa using ht')]
  have e1 : L.toArray[t / 2]! = L[t / 2] := by
    rw [getElem!_pos L.toArray (t / 2) (by simpa using hi)]
    simp
  rw [e1]
  rcases (show t % 2 = 0 ∨ t % 2 = 1 by omega) with h2 | h2
  · rw [h2]
    have e : t = t / 2 * 2 := by omega
    rw [show (cellsB L)[t]? = (cellsB L)[t / 2 * 2]? by rw [← e], c0]
    rfl
  · rw [h2]
    have e : t = t / 2 * 2 + 1 := by omega
    rw [show (cellsB L)[t]? = (cellsB L)[t / 2 * 2 + 1]? by rw [← e], c1]
    rfl
/-- .. and as the law wants it behind. -/
theorem prs_sorted {W : World} {g cap : Nat} {d : Array Pr} (h : HoldsK encPr 2 W g 0 d) : IsPrs W (.slice (some ⟨g, 0, none⟩) d.size cap) d.toList := by
  refine .inr ⟨g, 0, cap, by rw [Array.length_toList], fun k hk => ?_⟩
  have hk' : k < d.size := by simpa using hk
  have e : d[k]! = d.toList[k] := by
    rw [getElem!_pos d k hk']
    simp
  obtain ⟨c0, _⟩ := h.cell (c := 0) hk' (by omega)
  obtain ⟨c1, _⟩ := h.cell (c := 1) hk' (by omega)
  rw [e] at c0 c1
  exact ⟨c0, c1⟩

set_option maxHeartbeats 2000000 in
set_option maxRecDepth 100000 in
/-- The reference's own comparison. -/
theorem less_any (blk c B size : Nat) (W : World) (G : Nat → ByteArray) (hs : W.cell? ⟨B, 0, none⟩ = some (.slice (some ⟨blk, 0, none⟩) size c))
    (hc : ∀ t, t < size → W.cell? ⟨blk, 0 + t * 2, none⟩ = some (.string (G t))) (i j : Nat) (hi : i < size) (hj : j < size) (hsz : size < 4611686018427387904) :
    Calls Try.prog 13 #[.int .i64 i, .int .i64 j, .pointer (some ⟨B, 0, none⟩)] W fun e w' => e = .returned (.bool (ltStr (G i).data.toList (G j).data.toList)) ∧ ∃ q, w' = W.drewN q := by
  have ci := hc i hi
  have cj := hc j hj
  rw [Nat.zero_add] at ci cj
  have hv : Hid (Op.bytesLess (G i).toList (G j).toList = ltStr (G i).data.toList (G j).data.toList) := Lib.hid (by rw [bl_eq, ByteArray.toList_eq, ByteArray.toList_eq])
  generalize ltStr (G i).data.toList (G j).data.toList = r at *
  go_enter Try.func13, Try.ntmps13
  go_wp2
  go_quiet (fail)
  go_wp2
  go_ret
  exact ⟨by rw [hv.out]; rfl, nq, rfl⟩

noncomputable def svT : TypeInfo := (Try.prog.info? 22).get (by kernel_rfl)
noncomputable def svE : TypeInfo := (Try.prog.info? 28).get (by kernel_rfl)
theorem svK (n : Nat) (h2 : 2 ≤ n) : Lib.swapperK n svE 25 = 9 := by
  have a : svE.hasPointers = true := by kernel_rfl
  have b : svE.bytes = 32 := by kernel_rfl
  have c : (n == 0) = false := by simp; omega
  have d : (n == 1) = false := by simp; omega
  simp [Lib.swapperK, a, b, c, d]

theorem sortSl_any (W : World) (g c B : Nat) (d : Array Pr) (h2 : 2 ≤ d.size) (hsz : d.size < 4611686018427387904) (hH : HoldsK encPr 2 W g 0 d) (hg : g < W.heap.size)
    (hB : W.cell? ⟨B, 0, none⟩ = some (.slice (some ⟨g, 0, none⟩) d.size c)) (hBl : B < W.heap.size) (hne : B ≠ g) :
    Calls Try.prog 12 #[.iface 22 (.slice (some ⟨g, 0, none⟩) d.size c), .func (.func 13) #[] #[.pointer (some ⟨B, 0, none⟩)]] W fun e w' =>
      e = .returned (.tuple #[]) ∧ ∃ d', PermIn 0 d.size d d' ∧ SortedIn ltP 0 d.size d' ∧ W.grownBy w' (some g) ∧ HoldsK encPr 2 w' g 0 d' := by
  have hless : LessReadsK Try.prog 13 #[.pointer (some ⟨B, 0, none⟩)] encPr 2 ltP g 0 d.size W := by
    intro m os dk hs i j hi hj
    have e : sortWorldK encPr 2 W g 0 m dk os = putRowK encPr 2 (grow (Sort.ahead W m) os) g 0 dk := by
      unfold sortWorldK; rw [putRowK_grow _ _ (Sort.ahead W m) _ g 0 _ hg]
    have hHg : HoldsK encPr 2 (grow (Sort.ahead W m) os) g 0 d := holdsK_grow _ _ _ _ g 0 d hg (holdsK_ahead _ _ _ _ _ _ _ hH)
    refine less_any g c B d.size _ (fun t => dk[t]!.1) ?_ (fun t ht => ?_) i j hi hj hsz
    · rw [e, cell?_putRowK_other _ _ _ g 0 dk _ (by exact hne), cell?_grow _ _ _ (by exact hBl)]; exact hB
    · rw [e]; exact ((holdsK_putRowK _ _ _ g 0 d dk hHg hs).cell (i := t) (c := 0) (by omega) (by omega)).1
  refine (Any.sort_Slice_cells_sorted Try.laysGg6 22 28 svT svE (by kernel_rfl) (by kernel_rfl) (by kernel_rfl) (by kernel_rfl) 25 (fun _ => by kernel_rfl) encPr 2 (fun _ => rfl) (by kernel_rfl) (fun _ => by kernel_rfl)
    encPr_one ltP swo_ltP 13 _
    (enters_of Try.func13 (by kernel_rfl) rfl) g 0 c d h2 hsz 41 (by rw [svK _ h2]; kernel_rfl) false
    (fun args W => run_callFunc_extern Try.func41 (by kernel_rfl) (by kernel_rfl) (by kernel_rfl) (e := Extern.ReflectliteSwapper.swap false) (by kernel_rfl) args W) W hless hH hg).mono ?_
  rintro e w' ⟨rfl, d', n, os, hp, hs, rfl⟩
  refine ⟨rfl, d', hp, hs, grown_sortK d', ?_⟩
  exact holdsK_grow _ _ _ _ g 0 d' (by rw [size_putRowK]; exact hg) (holdsK_putRowK _ _ _ g 0 d d' (holdsK_ahead _ _ _ _ _ _ _ hH) hp.1)

theorem sortTiny_any (W : World) (p : Option Addr) (n c : Nat) (h1 : n ≤ 1) (B : Nat) :
    Calls Try.prog 12 #[.iface 22 (.slice p n c), .func (.func 13) #[] #[.pointer (some ⟨B, 0, none⟩)]] W fun e w' => e = .returned (.tuple #[]) ∧ W.grownBy w' none := by
  have hK : Lib.swapperK n svE 25 = n + 1 := by
    rcases Nat.eq_zero_or_pos n with h | h
    · subst h; simp [Lib.swapperK]
    · obtain rfl : n = 1 := by omega
      simp [Lib.swapperK]
  have h0 : Try.prog.funcs.findIdx? (·.name == "internal/reflectlite" ++ ".Swapper$" ++ toString 1) = some 33 := by kernel_rfl
  have h9 : Try.prog.funcs.findIdx? (·.name == "internal/reflectlite" ++ ".Swapper$" ++ toString 2) = some 34 := by kernel_rfl
  rcases Nat.eq_zero_or_pos n with h | h
  · subst h
    refine (Any.sort_Slice_tiny Try.laysGg6 22 28 svT svE (by kernel_rfl) (by kernel_rfl) (by kernel_rfl) (by kernel_rfl) 25 (fun _ => by kernel_rfl) p 0 c (by omega) 33 (by rw [hK]; exact h0) _ _ _ W).mono ?_
    rintro e w' ⟨rfl, os, rfl⟩
    exact ⟨rfl, grown_grow none⟩
  · obtain rfl : n = 1 := by omega
    refine (Any.sort_Slice_tiny Try.laysGg6 22 28 svT svE (by kernel_rfl) (by kernel_rfl) (by kernel_rfl) (by kernel_rfl) 25 (fun _ => by kernel_rfl) p 1 c (by omega) 34 (by rw [hK]; exact h9) _ _ _ W).mono ?_
    rintro e w' ⟨rfl, os, rfl⟩
    exact ⟨rfl, grown_grow none⟩
end Go.Proofs.Ytnnoeckmkjhdbaa
