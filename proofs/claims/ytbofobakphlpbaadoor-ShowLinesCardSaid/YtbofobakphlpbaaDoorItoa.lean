/-
  strconv.Itoa: what it reads of the library, and its contract in the seat's own words.
-/
import Derived.Test.YtbofobakphlpbaaDoorNum
import Derived.Test.YtbofobakphlpbaaDoorShelf
import Derived.Lib.LaidTab
namespace Go.Proofs.YtbofobakphlpbaaDoor
open Go.RowKit

/-- The library's powers of ten lie as they must. -/
def HasPow (w : World) : Prop := Lib.TabIs Tryd.prog w "internal/strconv.uint64pow10" .u64 Lib.pow10Tab
theorem powNamed : Tryd.prog.globalNamed "internal/strconv.uint64pow10" = some 4 := by kernel_rfl
theorem HasPow.ext {w w' : World} (h : HasPow w) (hE : Ext w w') : HasPow w' := by
  have hg : 4 < w.heap.size := by
    rcases Nat.lt_or_ge 4 w.heap.size with h1 | h1
    · exact h1
    · unfold HasPow Lib.TabIs World.var? at h
      rw [powNamed, Option.bind_some, Array.getElem?_eq_none h1] at h
      cases h
  have hb : w'.heap[4]? = w.heap[4]? := hE.below.block _ hg
  unfold HasPow Lib.TabIs World.var? at h ⊢
  rw [powNamed, Option.bind_some] at h ⊢
  rw [hb]
  exact h
theorem ext_grow {w w' : World} (h : ∃ k os, w' = Sort.grow (w.drewN k) os) : Ext w w' := by
  obtain ⟨k, os, rfl⟩ := h
  refine ⟨rfl, rfl, rfl, by simp [Sort.grow], fun b hb => ?_⟩
  simp only [Sort.grow, World.drewN]
  rw [Array.getElem?_append_left hb]
theorem itoa_any (n : Int) (h0 : -9223372036854775808 ≤ n) (h1 : n ≤ 9223372036854775807) (w : World) (ht : HasPow w) :
    Calls Tryd.prog 32 #[.int .i64 n] w fun e w' => e = .returned (.string ⟨(Lib.itoa n).toArray⟩) ∧ Ext w w' :=
  (Tryd.strconv_Itoa n h0 h1 w ht).mono fun _ _ ⟨h, k⟩ => ⟨h, ext_grow k⟩
theorem itoa_nat (n : Nat) (h1 : n ≤ 9223372036854775807) (w : World) (ht : HasPow w) :
    Calls Tryd.prog 32 #[.int .i64 (n : Int)] w fun e w' => e = .returned (.string ⟨(Lib.decDigits n).toArray⟩) ∧ Ext w w' := by
  have := itoa_any n (by omega) (by omega) w ht
  rw [Lib.itoa_nonneg] at this
  exact this
theorem dec_len (n : Nat) (h : n < 1000) : (Lib.decDigits n).length = if n < 10 then 1 else if n < 100 then 2 else 3 := by
  rw [Lib.decDigits_length]
  split
  · rw [Lib.nDigits_small ‹_›]
  · rw [Lib.nDigits_big ‹_›]
    split
    · rw [Lib.nDigits_small (by omega)]
    · rw [Lib.nDigits_big (by omega), Lib.nDigits_small (by omega)]
theorem pow_of_laid {rest : List (String × DataW Unit)} {W : World} (h : laidMet Tryd.prog (("internal/strconv.uint64pow10", Lib.tabData .u64 Lib.pow10Tab) :: rest) W) : HasPow W :=
  Lib.tabIs_of_head powNamed (t := 207) (e := 150) (n := 20) (by kernel_rfl) Tryd.underlying207 Tryd.underlying150 (by kernel_rfl) (by kernel_rfl) h
end Go.Proofs.YtbofobakphlpbaaDoor
