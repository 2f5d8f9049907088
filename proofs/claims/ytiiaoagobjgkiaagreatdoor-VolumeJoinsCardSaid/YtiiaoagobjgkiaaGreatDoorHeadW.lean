/-
  head.Write's callees: fits, texts, numbers.
-/
import Derived.Test.YtiiaoagobjgkiaaGreatDoorNum
import Derived.Test.YtiiaoagobjgkiaaGreatDoorFits
import Derived.BigRegion
namespace Go.Proofs.YtiiaoagobjgkiaaGreatDoor
open Go.RowKit Go.WideShapes

/-- Has the dialect all fields that are set? -/
def fitsV (f : Int) (us gr fr : ByteArray) (ma mi : Int) : Bool :=
  if f = 1 then (us.toList == (⟨#[]⟩ : ByteArray).toList) && (gr.toList == (⟨#[]⟩ : ByteArray).toList) && (fr.toList == (⟨#[]⟩ : ByteArray).toList) && (ma == 0) && (mi == 0)
  else if f = 3 then fr.toList.isEmpty else true
theorem eqlRaw (us gr fr : ByteArray) (ma mi : Int) (w : World) : (Op.equalIn 10000 82 (.agg #[.string ⟨#[]⟩, .string ⟨#[]⟩, .string us, .string gr, .string fr, .int .u8 0, .int .i64 0, .int .i64 0, .int .i64 0, .int .i64 0, .int .i64 0, .int .i64 ma, .int .i64 mi])
      (.agg #[.string ⟨#[]⟩, .string ⟨#[]⟩, .string ⟨#[]⟩, .string ⟨#[]⟩, .string ⟨#[]⟩, .int .u8 0, .int .i64 0, .int .i64 0, .int .i64 0, .int .i64 0, .int .i64 0, .int .i64 0, .int .i64 0])).run Tryz.prog w
      = .ok ((us.toList == (⟨#[]⟩ : ByteArray).toList) && (gr.toList == (⟨#[]⟩ : ByteArray).toList) && (fr.toList == (⟨#[]⟩ : ByteArray).toList) && (ma == 0) && (mi == 0)) w :=
  eql13d 9999 us gr fr ma mi w
    (fun x y => by rw [show (9999 : Nat) = 9998 + 1 from rfl, run_equalIn_string w 9998 _ _ _ Tryz.underlying9])
    (fun x y => by rw [show (9999 : Nat) = 9998 + 1 from rfl, run_equalIn_int w 9998 _ .i64 .i64 _ _ Tryz.underlying3])
    (fun x y => by rw [show (9999 : Nat) = 9998 + 1 from rfl, run_equalIn_int w 9998 _ .u8 .u8 _ _ Tryz.underlying5])

def textsV (r : Nat) : Value := .agg #[.pointer (some ⟨r, 0, none⟩), .pointer (some ⟨r, 1, none⟩), .pointer (some ⟨r, 2, none⟩), .pointer (some ⟨r, 3, none⟩), .pointer (some ⟨r, 4, none⟩)]
def numbersV (r : Nat) : Value := .agg #[.pointer (some ⟨r, 6, none⟩), .pointer (some ⟨r, 7, none⟩), .pointer (some ⟨r, 8, none⟩), .pointer (some ⟨r, 9, none⟩), .pointer (some ⟨r, 10, none⟩), .pointer (some ⟨r, 11, none⟩), .pointer (some ⟨r, 12, none⟩)]
set_option maxHeartbeats 1600000 in
set_option maxRecDepth 100000 in
theorem texts_any (r : Nat) (w : World) : Calls Tryz.prog 119 #[.pointer (some ⟨r, 0, none⟩)] w fun e w' => e = .returned (textsV r) ∧ Ext w w' := by
  go_enter Tryz.func119, Tryz.ntmps119
  go_wp2_with fail
  go_region
  all_goals
    go_wp2_with fail
    refine bodyPost_ret (v := textsV r) ?_ rfl ⟨rfl, (by show Below _ _ _; repeat' (first | (with_reducible exact Below.refl _ _) | (with_reducible assumption) | (with_reducible refine belowDrewN ?_ _) | (with_reducible refine Below.alloc ?_ ?_ _) | (with_reducible refine Below.drew ?_) | (with_reducible refine Below.setCell ?_ ?_ _) | go_size))⟩
    simp [results, Tryz.results119, go_sem, textsV]
set_option maxHeartbeats 4000000 in
set_option maxRecDepth 100000 in
theorem numbers_any (r : Nat) (w : World) : Calls Tryz.prog 115 #[.pointer (some ⟨r, 0, none⟩)] w fun e w' => e = .returned (numbersV r) ∧ Ext w w' := by
  go_enter Tryz.func115, Tryz.ntmps115
  go_wp2_with fail
  go_region
  all_goals
    go_wp2_with fail
    refine bodyPost_ret (v := numbersV r) ?_ rfl ⟨rfl, (by show Below _ _ _; repeat' (first | (with_reducible exact Below.refl _ _) | (with_reducible assumption) | (with_reducible refine belowDrewN ?_ _) | (with_reducible refine Below.alloc ?_ ?_ _) | (with_reducible refine Below.drew ?_) | (with_reducible refine Below.setCell ?_ ?_ _) | go_size))⟩
    simp [results, Tryz.results115, go_sem, numbersV]
end Go.Proofs.YtiiaoagobjgkiaaGreatDoor
