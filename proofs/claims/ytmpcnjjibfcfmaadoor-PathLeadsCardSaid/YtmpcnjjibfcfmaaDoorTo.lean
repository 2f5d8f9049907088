/-
  Where a link leads: path.To and the reference's To.
-/
import Derived.Test.YtmpcnjjibfcfmaaDoorCleanRef
import Derived.Test.YtmpcnjjibfcfmaaDoorPath
namespace Go.Proofs.YtmpcnjjibfcfmaaDoor
open Go.RowKit Go.WideShapes Go.PlainAid

def absB (l : ByteArray) : Bool := Lib.hasPrefix l.data.toList [47]
theorem abs_nil {l : ByteArray} (h : l.size = 0) : absB l = false := by
  unfold absB
  have h' : l.data.size = 0 := h
  rw [Array.eq_empty_of_size_eq_zero h']; rfl
theorem abs_bt {l : ByteArray} (h : 0 < l.size) : absB l = (bt l 0 == 47) := by
  have e : bt l 0 = ((l[0]'h).toNat : Int) := (get_bt l 0 h).symm
  obtain ⟨⟨L⟩⟩ := l
  cases L with
  | nil => exact absurd h (Nat.lt_irrefl 0)
  | cons x t =>
    have e' : bt ⟨⟨x :: t⟩⟩ 0 = (x.toNat : Int) := e
    rw [e']
    simp only [absB, Lib.hasPrefix, List.isPrefixOf]
    rw [Bool.eq_iff_iff]
    simp
    constructor
    · rintro rfl; rfl
    · intro h; exact (UInt8.toNat_inj.1 (by simp; omega))
def toArg (n l : ByteArray) : ByteArray := if absB l then l else upA n ++ ⟨#[47]⟩ ++ l
theorem upA_size (s : ByteArray) : (upA s).size ≤ s.size := by unfold upA; rw [ByteArray.size_extract]; omega
theorem toArg_size (n l : ByteArray) : (toArg n l).size ≤ n.size + 1 + l.size := by
  have := upA_size n
  unfold toArg
  split
  · omega
  · simp only [ByteArray.size_append]
    have : (⟨#[47]⟩ : ByteArray).size = 1 := rfl
    omega
def cleanVal (s : ByteArray) : Value := .tuple #[.string (joinV (cleanV ddB (partsB s)).1), .bool (cleanV ddB (partsB s)).2]

set_option maxHeartbeats 1600000 in
set_option maxRecDepth 100000 in
theorem pathTo_any (n l : ByteArray) (hn : n.size ≤ 40000) (hl : l.size ≤ 40000) (w : World) (hm : HasMax w) : Calls Tryd.prog 30 #[.string n, .string l] w fun e w' => e = .returned (cleanVal (toArg n l)) ∧ Ext w w' := by
  have hp := fun w => Tryd.strings_HasPrefix l ⟨#[47]⟩ w
  rw [show Lib.hasPrefix l.data.toList (⟨#[47]⟩ : ByteArray).data.toList = absB l from rfl] at hp
  have C2 := Lib.hid (fun w hm => clean_any (toArg n l) (by have := toArg_size n l; omega) w hm)
  have C3 := Lib.hid (fun w => pathUp_any n (by omega) w)
  have hv : Hid (cleanVal (toArg n l) = .tuple #[.string (joinV (cleanV ddB (partsB (toArg n l))).1), .bool (cleanV ddB (partsB (toArg n l))).2]) := Lib.hid rfl
  have ht : toArg n l = if absB l then l else upA n ++ ⟨#[47]⟩ ++ l := rfl
  have hu1 := upA_size n
  have hu : (upA n).size ≤ 40000 := by omega
  clear hu1
  generalize toArg n l = t at *
  generalize joinV (cleanV ddB (partsB t)).1 = r at *
  generalize (cleanV ddB (partsB t)).2 = ok at *
  cases ha : absB l with
  | true =>
    rw [ha] at hp ht
    simp at ht
    subst ht
    have C1 := Lib.hid hp
    clear hp ha
    go_enter Tryd.func30, Tryd.ntmps30
    go_wp2_with fail
    refine (C1.out _).mono ?_; rintro e w1 ⟨rfl, hw1⟩; rw [hw1]; clear hw1 w1
    go_wp2_with fail
    refine (C2.out _ hm).mono ?_; rintro e w1 ⟨rfl, hx1⟩
    go_wp2_with fail
    go_ret2
    exact ⟨ret_val (by rw [hv.out] <;> rfl), hx1⟩
  | false =>
    rw [ha] at hp ht
    simp at ht
    have Ht := Lib.hid ht
    have C1 := Lib.hid hp
    clear hp ha ht
    go_enter Tryd.func30, Tryd.ntmps30
    go_wp2_with fail
    refine (C1.out _).mono ?_; rintro e w1 ⟨rfl, hw1⟩; rw [hw1]; clear hw1 w1
    go_wp2_with fail
    refine (C3.out _).mono ?_; rintro e w1 ⟨rfl, hx1⟩
    go_wp2_with fail
    rw [← Ht.out]
    refine (C2.out _ (hm.ext hx1)).mono ?_; rintro e w2 ⟨rfl, hx2⟩
    go_wp2_with fail
    go_ret2
    exact ⟨ret_val (by rw [hv.out] <;> rfl), hx1.trans hx2⟩

set_option maxHeartbeats 1600000 in
set_option maxRecDepth 100000 in
theorem refTo_any (n l : ByteArray) (hn : n.size ≤ 40000) (hl : l.size ≤ 40000) (w : World) (hm : HasMax w) : Calls Tryd.prog 29 #[.string n, .string l] w fun e w' => e = .returned (cleanVal (toArg n l)) ∧ Ext w w' := by
  have C2 := Lib.hid (fun w hm => refClean_any (toArg n l) (by have := toArg_size n l; omega) w hm)
  have C3 := Lib.hid (fun w => refUp_any n (by omega) w)
  have hv : Hid (cleanVal (toArg n l) = .tuple #[.string (joinV (cleanV ddB (partsB (toArg n l))).1), .bool (cleanV ddB (partsB (toArg n l))).2]) := Lib.hid rfl
  have ht : toArg n l = if absB l then l else upA n ++ ⟨#[47]⟩ ++ l := rfl
  have hu1 := upA_size n
  have hu : (upA n).size ≤ 40000 := by omega
  clear hu1
  generalize toArg n l = t at *
  generalize joinV (cleanV ddB (partsB t)).1 = r at *
  generalize (cleanV ddB (partsB t)).2 = ok at *
  have hb := get_bt l
  by_cases h0 : 0 < l.size
  · have hpos : (0 : Int) < (l.size : Int) := by omega
    cases ha : absB l with
    | true =>
      have hb1 : (bt l 0 == 47) = true := by rw [← abs_bt h0, ha]
      rw [ha] at ht
      simp at ht
      subst ht
      clear ha
      go_enter Tryd.func29, Tryd.ntmps29
      go_wp2_with fail
      refine (C2.out _ hm).mono ?_; rintro e w1 ⟨rfl, hx1⟩
      go_wp2_with fail
      go_ret2
      exact ⟨ret_val (by rw [hv.out] <;> rfl), hx1⟩
    | false =>
      have hb1 : (bt l 0 == 47) = false := by rw [← abs_bt h0, ha]
      rw [ha] at ht
      simp at ht
      have Ht := Lib.hid ht
      clear ha ht
      go_enter Tryd.func29, Tryd.ntmps29
      go_wp2_with fail
      refine (C3.out _).mono ?_; rintro e w1 ⟨rfl, hx1⟩
      go_wp2_with fail
      rw [← Ht.out]
      refine (C2.out _ (hm.ext hx1)).mono ?_; rintro e w2 ⟨rfl, hx2⟩
      go_wp2_with fail
      go_ret2
      exact ⟨ret_val (by rw [hv.out] <;> rfl), hx1.trans hx2⟩
  · have hpos : ¬ (0 : Int) < (l.size : Int) := by omega
    rw [abs_nil (by omega)] at ht
    simp at ht
    have Ht := Lib.hid ht
    clear ht
    go_enter Tryd.func29, Tryd.ntmps29
    go_wp2_with fail
    refine (C3.out _).mono ?_; rintro e w1 ⟨rfl, hx1⟩
    go_wp2_with fail
    rw [← Ht.out]
    refine (C2.out _ (hm.ext hx1)).mono ?_; rintro e w2 ⟨rfl, hx2⟩
    go_wp2_with fail
    go_ret2
    exact ⟨ret_val (by rw [hv.out] <;> rfl), hx1.trans hx2⟩
end Go.Proofs.YtmpcnjjibfcfmaaDoor
