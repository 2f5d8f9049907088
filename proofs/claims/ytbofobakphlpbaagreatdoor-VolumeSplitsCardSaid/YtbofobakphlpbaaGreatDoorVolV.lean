/-
  The volumes of a text, in plain words; a volume's header, written and told by the reference alike. No conditions.
-/
import Derived.Test.YtbofobakphlpbaaGreatDoorHeadGood
import Derived.Test.YtbofobakphlpbaaGreatDoorFill
import Derived.Test.YtbofobakphlpbaaGreatDoorStrs
namespace Go.Proofs.YtbofobakphlpbaaGreatDoor
open Go.RowKit Go.WideShapes Go.PlainAid

/-- How many volumes of R bytes hold n bytes. -/
def manyV (n R : Nat) : Nat := max 1 ((n + R - 1) / R)
theorem many_pos (n R : Nat) : 1 ≤ manyV n R := Nat.le_max_left _ _
theorem many_lt {n R k : Nat} (hR : 1 ≤ R) : k < manyV n R ↔ k = 0 ∨ k * R < n := by
  have h : k < (n + R - 1) / R ↔ k * R < n := by
    rw [Nat.lt_iff_add_one_le, Nat.le_div_iff_mul_le (by omega), Nat.succ_mul]; omega
  unfold manyV
  omega
theorem many_le {n R : Nat} (hR : 1 ≤ R) : manyV n R ≤ n + 1 := by
  unfold manyV
  have : (n + R - 1) / R ≤ n := by
    rw [Nat.div_le_iff_le_mul (by omega)]
    have : n * 1 ≤ n * R := Nat.mul_le_mul (Nat.le_refl _) hR
    omega
  omega
/-- The bytes of a volume. -/
def partV (s : ByteArray) (R k : Nat) : ByteArray := s.extract (k * R) (min ((k + 1) * R) s.size)
def partsV (s : ByteArray) (R : Nat) : List ByteArray := (List.range (manyV s.size R)).map (partV s R)
theorem part_le (s : ByteArray) (R k : Nat) : (partV s R k).size ≤ s.size := by
  unfold partV
  rw [ByteArray.size_extract]
  omega
/-- All that is room enough for the text is alike. -/
theorem parts_room {s : ByteArray} {R R' : Nat} (h1 : 1 ≤ R) (h : s.size ≤ R) (h' : s.size ≤ R') (h1' : 1 ≤ R') : partsV s R = partsV s R' := by
  have hm : ∀ R, 1 ≤ R → s.size ≤ R → manyV s.size R = 1 := fun R h1 h => by
    have a := many_pos s.size R
    have b : ¬ 1 < manyV s.size R := fun hlt => by
      rcases (many_lt h1).1 hlt with h2 | h2 <;> omega
    omega
  have hp : ∀ R, s.size ≤ R → partV s R 0 = s.extract 0 s.size := fun R h => by
    unfold partV
    rw [Nat.zero_mul, Nat.zero_add, Nat.one_mul, Nat.min_eq_right h]
  unfold partsV
  rw [hm R h1 h, hm R' h1' h']
  show [partV s R 0] = [partV s R' 0]
  rw [hp R h, hp R' h']
/-- A volume: header and bytes, filled up. -/
def volB (H : Nat → Nat → Nat → ByteArray) (k m : Nat) (p : ByteArray) : ByteArray := H k m p.size ++ (p ++ padB p.size)
def volsL (H : Nat → Nat → Nat → ByteArray) (L : List ByteArray) (k : Nat) : List ByteArray := (List.range k).map fun j => volB H j L.length (L.getD j ⟨#[]⟩)
theorem vols_succ (H : Nat → Nat → Nat → ByteArray) (L : List ByteArray) (k : Nat) : volsL H L (k + 1) = volsL H L k ++ [volB H k L.length (L.getD k ⟨#[]⟩)] := by
  unfold volsL
  rw [List.range_succ, List.map_append]
  rfl
theorem vols_len (H : Nat → Nat → Nat → ByteArray) (L : List ByteArray) (k : Nat) : (volsL H L k).length = k := by
  unfold volsL
  rw [List.length_map, List.length_range]
theorem parts_len (s : ByteArray) (R : Nat) : (partsV s R).length = manyV s.size R := by
  unfold partsV
  rw [List.length_map, List.length_range]
theorem parts_at {s : ByteArray} {R k : Nat} (h : k < manyV s.size R) : (partsV s R).getD k ⟨#[]⟩ = partV s R k := by
  unfold partsV
  rw [List.getD_eq_getElem?_getD, List.getElem?_map, List.getElem?_range h]
  rfl

def volName : ByteArray := ⟨#[86, 79, 76, 85, 77, 69]⟩
/-- What both tell of a header's fields. -/
def HeadC (H : Nat → Nat → Nat → ByteArray) : Prop := ∀ i m n : Nat, i ≤ 20 → m ≤ 20 → n ≤ 60000 → (H i m n).size = 512 ∧
    (∀ w, HasMax w → Calls Tryz.prog 23 #[.int .i64 3, .agg #[.string volName, .string ⟨#[]⟩, .string ⟨#[]⟩, .string ⟨#[]⟩, .string ⟨#[]⟩, .int .u8 77, .int .i64 (i : Int), .int .i64 (m : Int), .int .i64 0, .int .i64 (n : Int), .int .i64 0, .int .i64 0, .int .i64 0]] w fun e w' => e = .returned (.tuple #[.string (H i m n), errOf 0]) ∧ Ext w w') ∧
    (∀ w, HasMax w → Calls Tryz.prog 20 #[.int .i64 3, .agg #[.string volName, .string ⟨#[]⟩, .string ⟨#[]⟩, .string ⟨#[]⟩, .string ⟨#[]⟩, .int .u8 77, .int .i64 (i : Int), .int .i64 (m : Int), .int .i64 0, .int .i64 (n : Int), .int .i64 0, .int .i64 0, .int .i64 0]] w fun e w' => e = .returned (.tuple #[.string (H i m n), .int .i64 0]) ∧ Ext w w')
theorem most8 : mostI 8 = 2097151 := by decide +kernel
theorem most12 : mostI 12 = 8589934591 := by decide +kernel
theorem octE8 {n : Int} (h0 : 0 ≤ n) (h1 : n ≤ 2097151) : octE n 8 = 0 := by
  unfold octE
  rw [if_neg (by omega), if_neg (by rw [most8]; omega)]
theorem octE12 {n : Int} (h0 : 0 ≤ n) (h1 : n ≤ 8589934591) : octE n 12 = 0 := by
  unfold octE
  rw [if_neg (by omega), if_neg (by rw [most12]; omega)]
set_option maxRecDepth 100000 in
theorem head_vol : ∃ H, HeadC H := by
  have hex : ∀ i m n : Nat, i ≤ 20 → m ≤ 20 → n ≤ 60000 → ∃ s : ByteArray, s.size = 512 ∧
      (∀ w, HasMax w → Calls Tryz.prog 23 #[.int .i64 3, .agg #[.string volName, .string ⟨#[]⟩, .string ⟨#[]⟩, .string ⟨#[]⟩, .string ⟨#[]⟩, .int .u8 77, .int .i64 (i : Int), .int .i64 (m : Int), .int .i64 0, .int .i64 (n : Int), .int .i64 0, .int .i64 0, .int .i64 0]] w fun e w' => e = .returned (.tuple #[.string s, errOf 0]) ∧ Ext w w') ∧
      (∀ w, HasMax w → Calls Tryz.prog 20 #[.int .i64 3, .agg #[.string volName, .string ⟨#[]⟩, .string ⟨#[]⟩, .string ⟨#[]⟩, .string ⟨#[]⟩, .int .u8 77, .int .i64 (i : Int), .int .i64 (m : Int), .int .i64 0, .int .i64 (n : Int), .int .i64 0, .int .i64 0, .int .i64 0]] w fun e w' => e = .returned (.tuple #[.string s, .int .i64 0]) ∧ Ext w w') := fun i m n hi hm hn =>
    good_gnu volName ⟨#[]⟩ ⟨#[]⟩ ⟨#[]⟩ 77 i m 0 n 0 0 0 (by decide) (by decide) (by decide) (by decide) (by decide) (by decide) (by omega) (by omega) (by omega) (by omega) (by omega) (by omega) (by omega) (by omega) (by omega) (by omega) (by omega) (by omega) (by omega) (by omega)
      (by decide +kernel) (by decide +kernel) (by decide +kernel) (by decide +kernel) (octE8 (by omega) (by omega)) (octE8 (by omega) (by omega)) (octE8 (by omega) (by omega)) (octE12 (by omega) (by omega)) (octE12 (by omega) (by omega)) (octE8 (by omega) (by omega)) (octE8 (by omega) (by omega))
  refine ⟨fun i m n => if h : i ≤ 20 ∧ m ≤ 20 ∧ n ≤ 60000 then Classical.choose (hex i m n h.1 h.2.1 h.2.2) else ⟨#[]⟩, fun i m n hi hm hn => ?_⟩
  show (if h : i ≤ 20 ∧ m ≤ 20 ∧ n ≤ 60000 then Classical.choose (hex i m n h.1 h.2.1 h.2.2) else ⟨#[]⟩).size = 512 ∧ _
  simp only [dif_pos (And.intro hi (And.intro hm hn))]
  exact Classical.choose_spec (hex i m n hi hm hn)
end Go.Proofs.YtbofobakphlpbaaGreatDoor
