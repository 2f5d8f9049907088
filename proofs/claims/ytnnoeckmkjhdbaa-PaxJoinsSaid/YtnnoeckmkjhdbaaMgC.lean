/-
  slices.SortFunc as pax.Merge calls it. No conditions but bounds.
-/
import Derived.Shelf.SlSortCmp.NoneTotal
import Derived.Test.YtnnoeckmkjhdbaaSortG
import Derived.Test.YtnnoeckmkjhdbaaMgS
namespace Go.Proofs.Ytnnoeckmkjhdbaa
open Go.Shelf Go.RowKit Go.Lib Go.Sort Go.WideShapes

def cfP (x y : Pr) : Int := Lib.compareBytes x.1.data.toList y.1.data.toList
theorem lt_cfP : ltOf cfP = ltP := by
  funext x y
  exact cmp_neg _ _
theorem swo_cfP : SWO (ltOf cfP) := by rw [lt_cfP]; exact swo_ltP
set_option maxHeartbeats 1000000 in
theorem cmpP_any (x y : Pr) (W : World) : Calls Try.prog 10 #[.agg #[.string x.1, .string x.2], .agg #[.string y.1, .string y.2]] W fun e w' => e = .returned (.int .i64 (cfP x y)) ∧ ∃ q os', w' = grow (W.drewN q) os' := by
  have hcon := fun W' => Try.strings_Compare x.1 y.1 W'
  unfold cfP
  generalize Lib.compareBytes x.1.data.toList y.1.data.toList = r at hcon ⊢
  go_enter Try.func10, Try.ntmps10
  go_wp2_with (go_at_call 11; refine (hcon _).mono ?_; rintro e w' ⟨rfl, rfl⟩)
  go_ret
  exact ⟨rfl, 0, _, by rw [alloc_eq_grow, alloc_eq_grow, grow_grow]; rfl⟩
theorem cmpLays_any (blk off size : Nat) (w : World) : CmpLays Try.prog 10 #[] encPr 2 cfP blk off size w := fun _ _ _ _ x y => cmpP_any x y _
theorem sortFn_any (W : World) (g c : Nat) (d : Array Pr) (hsz : d.size < 4611686018427387904) (hH : HoldsK encPr 2 W g 0 d) (hg : g < W.heap.size) :
    Calls Try.prog 9 #[.slice (some ⟨g, 0, none⟩) d.size c, .func (.func 10) #[] #[]] W fun e w' =>
      e = .returned (.tuple #[]) ∧ ∃ d', PermIn 0 d.size d d' ∧ SortedIn ltP 0 d.size d' ∧ W.grownBy w' (some g) ∧ HoldsK encPr 2 w' g 0 d' := by
  have eg : ∀ args w, (callFunc 10 args).run Try.prog w = .ok (.enter 10 args) w := enters_of Try.func10 (by kernel_rfl) rfl
  have h := AnyQ.slices_SortFunc Try.sortP 2 (fun _ => by kernel_rfl) (fun _ => by kernel_rfl) encPr (fun _ => rfl) encPr_one cfP swo_cfP 10 #[] g 0 c d W eg (cmpLays_any g 0 d.size W) hH hg hsz
  rw [lt_cfP] at h
  refine Calls.mono h ?_
  rintro e w' ⟨rfl, d', n, os, hp, hs, rfl⟩
  refine ⟨rfl, d', hp, hs, grown_sortK d', ?_⟩
  exact holdsK_grow _ _ _ _ g 0 d' (by rw [size_putRowK]; exact hg) (holdsK_putRowK _ _ _ g 0 d d' (holdsK_ahead _ _ _ _ _ _ _ hH) hp.1)
theorem sortNone_any (W : World) (p : Option Addr) (c : Nat) : Calls Try.prog 9 #[.slice p 0 c, .func (.func 10) #[] #[]] W fun e w' => e = .returned (.tuple #[]) ∧ w' = W :=
  AnyF.slices_SortFunc_none Try.sortP p c _ W
end Go.Proofs.Ytnnoeckmkjhdbaa
